/- The slots' plain laws in plain terms: ending, evicting and putting back. No condition. -/
import Derived.Test.YtaggjadgbmmjoaaDrSlA
import Derived.Test.YtaggjadgbmmjoaaQuBest
import Derived.Test.YtaggjadgbmmjoaaSlPub
import Derived.Test.YtaggjadgbmmjoaaSlEvict
namespace Go.Proofs.Ytaggjadgbmmjoaa

theorem countP_set_ (p : Sl → Bool) : ∀ {ls : List Sl} {k : Nat} {s x : Sl}, ls[k]? = some s → (ls.set k x).countP p + (if p s then 1 else 0) = ls.countP p + (if p x then 1 else 0)
  | [], k, s, x, h => by simp at h
  | y :: ls, 0, s, x, h => by
    simp at h; subst h
    simp only [List.set_cons_zero, List.countP_cons]; omega
  | y :: ls, k + 1, s, x, h => by
    have ih := countP_set_ p (ls := ls) (k := k) (s := s) (x := x) (by simpa using h)
    simp only [List.set_cons_succ, List.countP_cons]; omega
theorem inB_of {x a b : Int} (h : a ≤ x ∧ x ≤ b) : inB x a b = true := by rw [inB_iff]; omega
theorem Sl.fine_used {s : Sl} (h : s.fine) (h0 : ¬ s.state = 0) : (1 ≤ s.state ∧ s.state ≤ 3) ∧ (0 ≤ s.irq ∧ s.irq ≤ 7) ∧ (0 ≤ s.prio ∧ s.prio ≤ 15) := by
  unfold Sl.fine at h; rwa [if_neg h0] at h
theorem Sl.fs_at {l : List Sl} (h : Sl.good l = true) {k : Nat} {s : Sl} (hs : l[k]? = some s) (h0 : ¬ s.state = 0) : Sl.fsOk l s.irq = true ∧ Sl.fsV l s.irq = k := by
  have h1 := Sl.ix_of h hs h0
  have h2 := (Sl.fine_used (Sl.good_fine h hs) h0).2.1
  have : Sl.fsOk l s.irq = true := by simp [Sl.fsOk, Sl.gI, h, inB_of h2, h1]
  exact ⟨this, by rw [Sl.fsV, if_pos this, h1]⟩
theorem Sl.eOk_get {l : List Sl} {i : Int} (h : Sl.eOk l i = true) : ∃ (k : Nat) (s : Sl), k < l.length ∧ l[k]? = some s ∧ s.irq = i ∧ Sl.good l = true ∧ Sl.eR l i = l.set k (Sl.ended s) ∧ Sl.fsOk l i = true ∧ Sl.fsV l i = k ∧ (s.state = 2 ∧ (Sl.ended s).state = 0 ∨ s.state = 3 ∧ (Sl.ended s).state = 1) := by
  simp only [Sl.eOk, Sl.gI, Bool.and_eq_true] at h
  obtain ⟨⟨hg, hi⟩, he⟩ := h
  obtain ⟨k, s, h1, hk, hs, h0, h2, h3, h4⟩ := Sl.endOk_hit he
  have h5 := Sl.fs_at hg hs h0
  rw [h2] at h5
  refine ⟨k, s, hk, hs, h2, hg, by rw [← h4]; simp [Sl.eR, Sl.gI, hg, hi], h5.1, h5.2, ?_⟩
  have h6 := (Sl.fine_used (Sl.good_fine hg hs) h0).1
  by_cases h7 : s.state = 2
  · exact .inl ⟨h7, by simp [Sl.ended, h7]⟩
  · exact .inr ⟨by omega, by simp [Sl.ended, h7]⟩
theorem Sl.good_zero {l : List Sl} (h : Sl.good l = true) (k : Nat) : Sl.good (l.set k ⟨0, 0, 0⟩) = true := Sl.good_set h Sl.fine_zero (fun hx => absurd rfl hx)
theorem Sl.set_get {l : List Sl} {k : Nat} (h : k < l.length) (x : Sl) : (l.set k x)[k]? = some x := by rw [List.getElem?_set, if_pos rfl, if_pos h]
theorem Sl.evOk_get {l : List Sl} (h : Sl.evOk l = true) : ∃ (k : Nat) (s : Sl), k < l.length ∧ l[k]? = some s ∧ s.state = 1 ∧ Sl.good l = true ∧ Sl.evR l = l.set k ⟨0, 0, 0⟩ ∧ Sl.evV l = s ∧ (∀ u ∈ l, u.state = 1 → s.wt.lt u.wt = false) ∧
    Sl.pOk (l.set k ⟨0, 0, 0⟩) s.irq s.prio = true ∧ Sl.good (Sl.pR (l.set k ⟨0, 0, 0⟩) s.irq s.prio) = true ∧ Sl.emp (Sl.pR (l.set k ⟨0, 0, 0⟩) s.irq s.prio) = Sl.emp l := by
  have h0 := h
  simp only [Sl.evOk, Bool.and_eq_true, decide_eq_true_eq] at h
  obtain ⟨hg, hb⟩ := h
  rcases Sl.bn_cases l with h1 | ⟨k, s, h1, hk, hs, hst⟩
  · omega
  · obtain ⟨_, e2, e3⟩ := Sl.ev_yes hg h1 hs
    have hz := Sl.good_zero hg k
    obtain ⟨_, hi, hp⟩ := Sl.fine_used (Sl.good_fine hg hs) (by omega)
    have hlack : Sl.ix (l.set k ⟨0, 0, 0⟩) s.irq < 0 := by
      rw [Sl.ix_neg]
      intro u hu hu0
      rcases mem_set_or hu with rfl | ⟨j, hj, hju⟩
      · exact absurd rfl hu0
      · exact Sl.good_two hg hj hju hs hu0 (by omega)
    have hix : Sl.ix (l.set k ⟨0, 0, 0⟩) s.irq = -1 := by
      rcases find_cases (Sl.has s.irq) (l.set k ⟨0, 0, 0⟩) with h2 | ⟨m, t, h2, _⟩
      · exact h2.1
      · change Sl.ix _ _ = (m : Int) at h2; omega
    have hgip : Sl.gIP (l.set k ⟨0, 0, 0⟩) s.irq s.prio = true := by simp [Sl.gIP, hz, inB_of hi, inB_of hp]
    rcases find_cases Sl.free (l.set k ⟨0, 0, 0⟩) with h2 | ⟨m, t, h2, hm, ht, hf⟩
    · exfalso
      have := List.any_eq_false.1 h2.2 ⟨0, 0, 0⟩ (List.mem_of_getElem? (Sl.set_get hk _))
      simp [Sl.free] at this
    · obtain ⟨p1, p2⟩ := Sl.put_new (p := s.prio) hix (show Sl.fx _ = (m : Int) from h2)
      have hpr : Sl.pR (l.set k ⟨0, 0, 0⟩) s.irq s.prio = (l.set k ⟨0, 0, 0⟩).set m ⟨1, s.irq, s.prio⟩ := by simp [Sl.pR, hgip, p2]
      have hgood : Sl.good (Sl.pR (l.set k ⟨0, 0, 0⟩) s.irq s.prio) = true := by
        have : Sl.pR (l.set k ⟨0, 0, 0⟩) s.irq s.prio = Sl.putR (l.set k ⟨0, 0, 0⟩) s.irq s.prio := by simp [Sl.pR, hgip]
        rw [this]
        exact Sl.good_put hz hi hp p1
      refine ⟨k, s, hk, hs, hst, hg, e2, e3, fun u hu hu1 => Sl.bn_top h1 hs hu hu1, by simp [Sl.pOk, hgip, p1], hgood, ?_⟩
      unfold Sl.emp
      rw [if_pos hgood, if_pos hg, hpr]
      have a1 := countP_set_ Sl.free (x := ⟨0, 0, 0⟩) hs
      have a2 := countP_set_ Sl.free (x := ⟨1, s.irq, s.prio⟩) ht
      simp only [Sl.free, hst] at a1
      have h7 : t.state = 0 := by simpa [Sl.free] using hf
      simp [Sl.free, h7] at a2
      simp at a1
      have a3 : (l.set k ⟨0, 0, 0⟩).countP Sl.free = l.countP Sl.free + 1 := a1
      simp only [Int.ofNat_inj]
      have a4 : ((l.set k ⟨0, 0, 0⟩).set m ⟨1, s.irq, s.prio⟩).countP Sl.free + 1 = (l.set k ⟨0, 0, 0⟩).countP Sl.free := a2
      omega

end Go.Proofs.Ytaggjadgbmmjoaa
