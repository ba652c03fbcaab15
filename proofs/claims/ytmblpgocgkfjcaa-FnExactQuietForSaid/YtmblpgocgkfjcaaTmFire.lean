/- The plain law of firing: each firing lowers the number of firings to come by one; where nothing fires any more it is 0. No program in sight. -/
import Derived.Test.YtmblpgocgkfjcaaTmN
namespace Go.Proofs.Ytmblpgocgkfjcaa
open Go.RowKit Go.ChangeShapes Go.WideShapes Go.Deep

/-- a timer behind its firing -/
def Tm.fired (t : Tm) : Tm := if t.every = 0 ∨ 100000 < t.next + t.every then ⟨false, 0, t.every, t.irq⟩ else ⟨t.armed, t.next + t.every, t.every, t.irq⟩
def Tm.count (tick : Int) (l : List Tm) : Int := (l.map fun t => t.fires tick).sum
/-- is there a timer that fires up to the tick -/
def Tm.due (tick : Int) (l : List Tm) : Bool := match l[(Tm.nextIx l).toNat]? with | some t => decide (0 ≤ Tm.nextIx l) && decide (t.next ≤ tick) | none => false
def Tm.step (l : List Tm) : List Tm := match l[(Tm.nextIx l).toNat]? with | some t => l.set (Tm.nextIx l).toNat t.fired | none => l
def Tm.fireN (tick : Int) : Nat → List Tm → List Tm
  | 0, l => l
  | k + 1, l => if Tm.due tick l then Tm.fireN tick k (Tm.step l) else l
/-- the timers behind a tick -/
def Tm.final (tick : Int) (l : List Tm) : List Tm := Tm.fireN tick (Tm.count tick l).toNat l

theorem Tm.fired_ok {t : Tm} (h : t.ok = true) (ha : t.armed = true) : t.fired.ok = true := by
  simp only [Tm.ok, Bool.and_eq_true] at h
  have h1 := inB_true h.1
  have h2 := inB_true h.2.1
  have h3 := h.2.2.1
  unfold Tm.fired
  split
  · simp only [Tm.ok, Bool.and_eq_true]
    exact ⟨by decide, h.2.1, h3, by simp⟩
  · rename_i hn
    simp only [Tm.ok, Bool.and_eq_true]
    exact ⟨(inB_iff _ _ _).2 (by omega), h.2.1, h3, by simp [ha]⟩
theorem Tm.fires_fired {t : Tm} {tick : Int} (h : t.ok = true) (ha : t.armed = true) (ht : t.next ≤ tick) (hk : tick ≤ 100000) : t.fired.fires tick = t.fires tick - 1 := by
  simp only [Tm.ok, Bool.and_eq_true] at h
  have h1 := inB_true h.1
  have h2 := inB_true h.2.1
  have e1 : t.fires tick = if t.every = 0 then 1 else (tick - t.next) / t.every + 1 := by
    unfold Tm.fires; rw [if_neg (by rw [ha]; simp; omega)]
  by_cases he : t.every = 0
  · have : t.fired = ⟨false, 0, t.every, t.irq⟩ := by unfold Tm.fired; rw [if_pos (.inl he)]
    rw [this, e1, if_pos he]; simp [Tm.fires]
  · rw [e1, if_neg he]
    by_cases hn : 100000 < t.next + t.every
    · have : t.fired = ⟨false, 0, t.every, t.irq⟩ := by unfold Tm.fired; rw [if_pos (.inr hn)]
      have hd : (tick - t.next) / t.every = 0 := Int.ediv_eq_zero_of_lt (by omega) (by omega)
      rw [this, hd]; simp [Tm.fires]
    · have : t.fired = ⟨t.armed, t.next + t.every, t.every, t.irq⟩ := by unfold Tm.fired; rw [if_neg (by omega)]
      rw [this]
      unfold Tm.fires
      simp only [ha]
      by_cases hl : tick < t.next + t.every
      · have hd : (tick - t.next) / t.every = 0 := Int.ediv_eq_zero_of_lt (by omega) (by omega)
        rw [if_pos (.inr hl), hd]; simp
      · rw [if_neg (by simp; omega), if_neg he]
        have : (tick - t.next) / t.every = (tick - (t.next + t.every)) / t.every + 1 := by
          rw [show tick - t.next = (tick - (t.next + t.every)) + t.every * 1 by omega, Int.add_mul_ediv_left _ _ he]
        rw [this]; omega

theorem sum_set (f : Tm → Int) : ∀ (l : List Tm) (i : Nat) (t t' : Tm), l[i]? = some t → ((l.set i t').map f).sum = (l.map f).sum - f t + f t'
  | [], i, t, t', h => by simp at h
  | x :: l, 0, t, t', h => by
    simp at h; subst h
    simp; omega
  | x :: l, i + 1, t, t', h => by
    have := sum_set f l i t t' (by simpa using h)
    simp only [List.set_cons_succ, List.map_cons, List.sum_cons, this]; omega

theorem Tm.nextTo_min (l : List Tm) : ∀ k, k ≤ l.length → ∀ j t, j < k → l[j]? = some t → t.armed = true → ∃ (i : Nat) (u : Tm), Tm.nextTo l k = i ∧ l[i]? = some u ∧ u.next ≤ t.next
  | 0, _, j, t, hj, _, _ => absurd hj (Nat.not_lt_zero _)
  | k + 1, hk, j, t, hj, ht, ha => by
    have hx : l[k]? = some (l[k]'(by omega)) := List.getElem?_eq_getElem _
    have hs := Tm.nextTo_succ hx
    have hbd := Tm.nextTo_bd l k (by omega)
    by_cases hjk : j < k
    · obtain ⟨i, u, hi, hu, hle⟩ := Tm.nextTo_min l k (by omega) j t hjk ht ha
      rw [hs]
      split
      · rename_i hb
        refine ⟨k, _, rfl, hx, ?_⟩
        rw [hi] at hb
        simp only [Tm.better, Int.toNat_natCast, hu, Bool.and_eq_true, Bool.or_eq_true, decide_eq_true_eq] at hb
        omega
      · exact ⟨i, u, hi, hu, hle⟩
    · have hjk' : j = k := by omega
      subst hjk'
      obtain rfl : t = l[j] := Option.some.inj (ht.symm.trans hx)
      rw [hs]
      split
      · exact ⟨j, _, rfl, hx, Int.le_refl _⟩
      · rename_i hb
        rcases hbd with h | ⟨i, u, hi, _, hu, _⟩
        · rw [h] at hb; simp [Tm.better, ha] at hb
        · rw [hi] at hb
          refine ⟨i, u, hi, hu, ?_⟩
          simp only [Tm.better, Int.toNat_natCast, hu, ha, Bool.true_and, Bool.or_eq_true, decide_eq_true_eq] at hb
          omega

/-- what the search answers, and whether something is due -/
theorem Tm.due_cases (tick : Int) (l : List Tm) : (Tm.nextIx l = -1 ∧ Tm.due tick l = false) ∨ ∃ (i : Nat) (t : Tm), Tm.nextIx l = i ∧ i < l.length ∧ l[i]? = some t ∧ t.armed = true ∧ Tm.due tick l = decide (t.next ≤ tick) ∧ Tm.step l = l.set i t.fired := by
  rcases Tm.nextTo_bd l l.length (Nat.le_refl _) with h | ⟨i, t, h, hi, ht, ha⟩
  · have h : Tm.nextIx l = -1 := h
    refine .inl ⟨h, ?_⟩
    unfold Tm.due
    rw [h]
    split <;> simp
  · have h : Tm.nextIx l = i := h
    refine .inr ⟨i, t, h, hi, ht, ha, ?_, ?_⟩
    · unfold Tm.due; rw [h]; simp [ht]
    · unfold Tm.step; rw [h]; simp [ht]

theorem Tm.count_nonneg {tick : Int} (h2 : tick ≤ 100000) : ∀ {l : List Tm}, l.all Tm.ok = true → 0 ≤ Tm.count tick l ∧ Tm.count tick l ≤ 100001 * l.length
  | [], _ => by simp [Tm.count]
  | t :: l, h => by
    simp only [List.all_cons, Bool.and_eq_true] at h
    have h3 := Tm.fires_bd t tick h.1 h2
    have h4 := Tm.count_nonneg h2 h.2
    simp only [Tm.count, List.map_cons, List.sum_cons, List.length_cons] at h4 ⊢
    omega
theorem Tm.count_zero {tick : Int} (l : List Tm) (h : ∀ t ∈ l, t.armed = true → tick < t.next) : Tm.count tick l = 0 := by
  have : ∀ l : List Tm, (∀ t ∈ l, t.armed = true → tick < t.next) → (l.map fun t => t.fires tick).sum = 0 := by
    intro l
    induction l with
    | nil => intro _; rfl
    | cons t l ih =>
      intro h
      have h1 : t.fires tick = 0 := by
        unfold Tm.fires
        rw [if_pos]
        cases ha : t.armed
        · exact .inl rfl
        · exact .inr (h t (by simp) ha)
      rw [List.map_cons, List.sum_cons, h1, ih (fun t ht => h t (by simp [ht]))]; rfl
  exact this l h
theorem Tm.not_due {tick : Int} {l : List Tm} (h : Tm.due tick l = false) : Tm.count tick l = 0 := by
  refine Tm.count_zero l fun t ht ha => ?_
  obtain ⟨j, hj⟩ := List.getElem?_of_mem ht
  obtain ⟨i, u, hi, hu, hle⟩ := Tm.nextTo_min l l.length (Nat.le_refl _) j t (List.getElem?_eq_some_iff.1 hj).1 hj ha
  rcases Tm.due_cases tick l with ⟨h1, _⟩ | ⟨i', t', h1, _, ht', _, hd, _⟩
  · have : Tm.nextTo l l.length = -1 := h1
    omega
  · have e : (i : Int) = i' := hi.symm.trans h1
    have e : i = i' := by omega
    subst e
    obtain rfl := Option.some.inj (hu.symm.trans ht')
    rw [h] at hd
    have : ¬ u.next ≤ tick := by simpa using hd.symm
    omega
theorem Tm.due_step {tick : Int} (hk : tick ≤ 100000) {l : List Tm} (hg : Tm.good l = true) (h : Tm.due tick l = true) : Tm.good (Tm.step l) = true ∧ Tm.count tick (Tm.step l) = Tm.count tick l - 1 := by
  have hall : l.all Tm.ok = true := by simp only [Tm.good, Bool.and_eq_true] at hg; exact hg.2
  rcases Tm.due_cases tick l with ⟨_, h1⟩ | ⟨i, t, _, hi, ht, ha, hd, hs⟩
  · rw [h1] at h; cases h
  · rw [h] at hd
    have hle : t.next ≤ tick := by simpa using hd.symm
    have hok : t.ok = true := List.all_eq_true.1 hall t (List.mem_of_getElem? ht)
    rw [hs]
    refine ⟨?_, ?_⟩
    · simp only [Tm.good, Bool.and_eq_true, List.length_set] at hg ⊢
      refine ⟨hg.1, List.all_eq_true.2 fun x hx => ?_⟩
      rcases List.mem_or_eq_of_mem_set hx with hx | rfl
      · exact List.all_eq_true.1 hall x hx
      · exact Tm.fired_ok hok ha
    · unfold Tm.count
      rw [sum_set _ _ _ _ _ ht, Tm.fires_fired hok ha hle hk]; omega
theorem Tm.final_stop {tick : Int} {l : List Tm} (h : Tm.due tick l = false) : Tm.final tick l = l := by
  unfold Tm.final
  rw [Tm.not_due h]; rfl
theorem Tm.final_step {tick : Int} (hk : tick ≤ 100000) {l : List Tm} (hg : Tm.good l = true) (h : Tm.due tick l = true) : Tm.final tick l = Tm.final tick (Tm.step l) ∧ 0 < Tm.count tick l := by
  have h1 := Tm.due_step hk hg h
  have hall : (Tm.step l).all Tm.ok = true := by have := h1.1; simp only [Tm.good, Bool.and_eq_true] at this; exact this.2
  have h2 := Tm.count_nonneg hk hall
  obtain ⟨c, hc⟩ := Int.eq_ofNat_of_zero_le h2.1
  have h3 : Tm.count tick l = (c + 1 : Nat) := by omega
  refine ⟨?_, by omega⟩
  unfold Tm.final
  rw [h3, hc, Int.toNat_natCast, Int.toNat_natCast, Tm.fireN, if_pos h]
theorem Tm.good_final {tick : Int} (hk : tick ≤ 100000) : ∀ (n : Nat) {l : List Tm}, Tm.good l = true → Tm.good (Tm.fireN tick n l) = true
  | 0, _, h => h
  | n + 1, l, h => by
    rw [Tm.fireN]
    split
    · rename_i hd; exact Tm.good_final hk n (Tm.due_step hk h hd).1
    · exact h

end Go.Proofs.Ytmblpgocgkfjcaa
