/- What 'best' finds among slots, when a queue is settled, and that taking keeps it so, in plain terms. No condition. -/
import Derived.Test.YtaggjadgbmmjoaaQuMath2
import Derived.Test.YtaggjadgbmmjoaaSlAct
namespace Go.Proofs.Ytaggjadgbmmjoaa

theorem Sl.bt_trans {most : Bool} {a b c : Sl} (h : Sl.bt most a b = true) (k : Sl.bt most b c = true) : Sl.bt most a c = true := by
  cases most
  · simp [Sl.bt] at *
    exact Wt.lt_trans k h
  · simp [Sl.bt] at *
    exact Wt.lt_trans h k
theorem Sl.bt_irrefl (most : Bool) (a : Sl) : Sl.bt most a a = false := by cases most <;> simp [Sl.bt, Wt.lt_irrefl]
theorem Sl.best_none (most : Bool) (l : List Sl) : ∀ k : Nat, k ≤ l.length → Sl.best most l k = -1 → ∀ (j : Nat) (u : Sl), j < k → l[j]? = some u → ¬ u.state = 1
  | 0, _, _, j, u, hj, _ => absurd hj (by omega)
  | k + 1, hk, h, j, u, hj, hu => by
    obtain ⟨s, hs⟩ : ∃ s, l[k]? = some s := ⟨_, List.getElem?_eq_getElem (show k < l.length by omega)⟩
    rw [Sl.best_succ hs] at h
    by_cases hb : Sl.bestIf most l (Sl.best most l k) s = true
    · rw [if_pos hb] at h; omega
    · rw [if_neg hb] at h
      have ih := Sl.best_none most l k (by omega) h
      rcases Nat.lt_or_ge j k with hjk | hjk
      · exact ih j u hjk hu
      · obtain rfl : j = k := by omega
        rw [hs] at hu
        injection hu with hu
        subst hu
        intro e
        apply hb
        simp [Sl.bestIf, e, h]
theorem Sl.best_top (most : Bool) (l : List Sl) : ∀ k : Nat, k ≤ l.length → ∀ (i : Nat) (s : Sl), Sl.best most l k = i → l[i]? = some s → ∀ (j : Nat) (u : Sl), j < k → l[j]? = some u → u.state = 1 → Sl.bt most u s = false
  | 0, _, _, _, _, _, j, u, hj, _, _ => absurd hj (by omega)
  | k + 1, hk, i, x, h, hx, j, u, hj, hu, hst => by
    obtain ⟨s, hs⟩ : ∃ s, l[k]? = some s := ⟨_, List.getElem?_eq_getElem (show k < l.length by omega)⟩
    rw [Sl.best_succ hs] at h
    have ih := Sl.best_top most l k (by omega)
    by_cases hb : Sl.bestIf most l (Sl.best most l k) s = true
    · rw [if_pos hb] at h
      obtain rfl : i = k := by omega
      rw [hs] at hx
      injection hx with hx
      subst hx
      rcases Nat.lt_or_ge j i with hji | hji
      · rcases Sl.best_bd most l i (by omega) with h1 | ⟨j1, u1, h1, h2, h3, h4⟩
        · exact absurd hst (Sl.best_none most l i (by omega) h1 j u hji hu)
        · have h5 := ih j1 u1 h1 h3 j u hji hu hst
          simp only [Sl.bestIf, h1, Bool.and_eq_true, Bool.or_eq_true, decide_eq_true_eq] at hb
          obtain ⟨_, h6 | h6⟩ := hb
          · omega
          · rw [show l.getD (j1 : Int).toNat default = u1 from by simp [h3]] at h6
            cases h7 : Sl.bt most u s
            · rfl
            · rw [Sl.bt_trans h7 h6] at h5; exact absurd h5 (by decide)
      · obtain rfl : j = i := by omega
        rw [hs] at hu
        injection hu with hu
        subst hu
        exact Sl.bt_irrefl most s
    · rw [if_neg hb] at h
      rcases Nat.lt_or_ge j k with hjk | hjk
      · exact ih i x h hx j u hjk hu hst
      · obtain rfl : j = k := by omega
        rw [hs] at hu
        injection hu with hu
        subst hu
        cases h7 : Sl.bt most s x
        · rfl
        · exfalso
          apply hb
          simp [Sl.bestIf, hst, h, hx, h7]
theorem Sl.bn_none {l : List Sl} (h : Sl.bn l = -1) {s : Sl} (hs : s ∈ l) : ¬ s.state = 1 := by
  obtain ⟨j, hj⟩ := List.getElem?_of_mem hs
  exact Sl.best_none false l l.length (Nat.le_refl _) h j s (List.getElem?_eq_some_iff.1 hj).1 hj
theorem Sl.bx_none {l : List Sl} (h : Sl.bx l = -1) {s : Sl} (hs : s ∈ l) : ¬ s.state = 1 := by
  obtain ⟨j, hj⟩ := List.getElem?_of_mem hs
  exact Sl.best_none true l l.length (Nat.le_refl _) h j s (List.getElem?_eq_some_iff.1 hj).1 hj
theorem Sl.bn_top {l : List Sl} {k : Nat} {s u : Sl} (h : Sl.bn l = k) (hs : l[k]? = some s) (hu : u ∈ l) (h1 : u.state = 1) : s.wt.lt u.wt = false := by
  obtain ⟨j, hj⟩ := List.getElem?_of_mem hu
  have := Sl.best_top false l l.length (Nat.le_refl _) k s h hs j u (List.getElem?_eq_some_iff.1 hj).1 hj h1
  simpa [Sl.bt] using this
theorem Sl.bx_top {l : List Sl} {k : Nat} {s u : Sl} (h : Sl.bx l = k) (hs : l[k]? = some s) (hu : u ∈ l) (h1 : u.state = 1) : u.wt.lt s.wt = false := by
  obtain ⟨j, hj⟩ := List.getElem?_of_mem hu
  have := Sl.best_top true l l.length (Nat.le_refl _) k s h hs j u (List.getElem?_eq_some_iff.1 hj).1 hj h1
  simpa [Sl.bt] using this
theorem Sl.fx_neg {l : List Sl} : Sl.fx l < 0 ↔ ∀ s ∈ l, ¬ s.state = 0 := by
  rcases find_cases Sl.free l with ⟨h1, h2⟩ | ⟨k, s, h1, h2, h3, h4⟩
  · rw [Sl.fx, h1]
    rw [List.any_eq_false] at h2
    exact ⟨fun _ s hs => by simpa [Sl.free] using h2 s hs, fun _ => by omega⟩
  · rw [Sl.fx, h1]
    refine ⟨fun h => absurd h (by omega), fun h => absurd (by simpa [Sl.free] using h4) (h s (List.mem_of_getElem? h3))⟩
theorem Wt.lt_le {x y z : Wt} (h : y.lt x = false) (k : y.lt z = true) : x.lt z = true := by
  rw [Bool.eq_false_iff, ne_eq, Wt.lt_iff] at h
  rw [Wt.lt_iff] at *
  omega
theorem Qu.settled_iff {ls : List Sl} {lw : List Wt} : Qu.settled ls lw = true ↔ ∀ t, lw[0]? = some t → (∀ s ∈ ls, ¬ s.state = 0) ∧ ∀ s ∈ ls, s.state = 1 → s.wt.lt t = true := by
  cases lw with
  | nil => simp [Qu.settled]
  | cons t rest =>
    have h0 : (t :: rest)[0]? = some t := rfl
    rw [Qu.settled_at h0, Bool.and_eq_true, decide_eq_true_eq, Sl.fx_neg, Bool.or_eq_true, decide_eq_true_eq]
    constructor
    · rintro ⟨h1, h2⟩ t' ht'
      rw [h0] at ht'
      injection ht' with ht'
      subst ht'
      refine ⟨h1, fun s hs hst => ?_⟩
      rcases Sl.bn_cases ls with hb | ⟨k, u, hb, _, hu, _⟩
      · exact absurd hst (Sl.bn_none hb hs)
      · rcases h2 with h2 | h2
        · omega
        · rw [hb, Sl.at_get hu] at h2
          exact Wt.lt_le (Sl.bn_top hb hu hs hst) h2
    · intro h
      obtain ⟨h1, h2⟩ := h t h0
      refine ⟨h1, ?_⟩
      rcases Sl.bn_cases ls with hb | ⟨k, u, hb, _, hu, hst⟩
      · left; omega
      · right
        rw [hb, Sl.at_get hu]
        exact h2 u (List.mem_of_getElem? hu) hst
theorem Sl.tkOk_get {ls : List Sl} {m : Int} (h : Sl.tkOk ls m = true) : ∃ (k : Nat) (s : Sl), Sl.bx ls = k ∧ k < ls.length ∧ ls[k]? = some s ∧ s.state = 1 ∧ s.prio < m ∧ Sl.tkS ls = ls.set k (Sl.act s) ∧ Sl.tkI ls = s.irq := by
  simp only [Sl.tkOk, Bool.and_eq_true, decide_eq_true_eq] at h
  obtain ⟨h1, h2⟩ := h
  rcases Sl.bx_cases ls with hb | ⟨k, s, hb, hk, hs, hst⟩
  · omega
  · rw [hb, Sl.at_get hs] at h2
    exact ⟨k, s, hb, hk, hs, hst, h2, by rw [Sl.tkS, hb, Sl.at_get hs]; rfl, by rw [Sl.tkI, hb, Sl.at_get hs]⟩
theorem Qu.tk_good {ls : List Sl} {lw : List Wt} {m : Int} (h : Qu.good ls lw = true) (hk : Sl.tkOk ls m = true) : Qu.good (Sl.tkS ls) lw = true := by
  obtain ⟨hp, hs⟩ := Qu.good_parts h
  have hp2 := Qu.tk_parts hp hk
  simp only [Qu.good, hp2, Bool.true_and]
  obtain ⟨k, s, _, _, hks, _, _, e, _⟩ := Sl.tkOk_get hk
  rw [Qu.settled_iff] at hs ⊢
  intro t ht
  obtain ⟨h1, h2⟩ := hs t ht
  rw [e]
  refine ⟨fun u hu => ?_, fun u hu hst => ?_⟩
  · rcases mem_set_or hu with rfl | ⟨j, _, hj⟩
    · simp [Sl.act]
    · exact h1 u (List.mem_of_getElem? hj)
  · rcases mem_set_or hu with rfl | ⟨j, _, hj⟩
    · simp [Sl.act] at hst
    · exact h2 u (List.mem_of_getElem? hj) hst

end Go.Proofs.Ytaggjadgbmmjoaa
