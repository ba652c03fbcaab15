/- Processor interfaces in plain terms: when one is valid, and that what is done to it keeps it so. No condition. -/
import Derived.Test.YtengaccnncnipaaGreatQuMath2
import Derived.Test.YtengaccnncnipaaGreatSlAct
namespace Go.Proofs.YtengaccnncnipaaGreat

def leI (x y : Int) : Bool := decide (x ≤ y)
theorem sortI_perm (l : List Int) : (l.mergeSort fun x y => decide (x ≤ y)).Perm l := List.mergeSort_perm l _
theorem sortI_asc (l : List Int) : (l.mergeSort fun x y => decide (x ≤ y)).Pairwise (fun a b => a ≤ b) := by
  have := List.pairwise_mergeSort (le := fun x y : Int => decide (x ≤ y)) (fun a b c h1 h2 => by simp at *; omega) (fun a b => by simp; omega) l
  exact this.imp (fun h => by simpa using h)
theorem asc_sub : ∀ (b a : List Int), a.Pairwise (· < ·) → b.Pairwise (· < ·) → (∀ x ∈ a, x ∈ b) → a.Sublist b
  | [], a, _, _, h => by
    cases a with
    | nil => exact List.Sublist.refl _
    | cons x a => exact absurd (h x (by simp)) (by simp)
  | y :: b, [], _, _, _ => List.nil_sublist _
  | y :: b, x :: a, ha, hb, h => by
    rw [List.pairwise_cons] at ha hb
    by_cases e : x = y
    · subst e
      refine List.Sublist.cons_cons x (asc_sub b a ha.2 hb.2 fun z hz => ?_)
      rcases List.mem_cons.1 (h z (by simp [hz])) with rfl | hz'
      · exact absurd (ha.1 z hz) (by omega)
      · exact hz'
    · have hx : x ∈ b := by
        rcases List.mem_cons.1 (h x (by simp)) with h' | h'
        · exact absurd h' e
        · exact h'
      have hyx := hb.1 x hx
      refine List.Sublist.cons y (asc_sub b (x :: a) (List.pairwise_cons.2 ha) hb.2 fun z hz => ?_)
      rcases List.mem_cons.1 (h z hz) with rfl | hz'
      · rcases List.mem_cons.1 hz with rfl | hz2
        · exact absurd rfl e
        · exact absurd (ha.1 z hz2) (by omega)
      · exact hz'
theorem asc_nodup {l : List Int} (h : l.Pairwise (· < ·)) : l.Nodup := h.imp (fun h e => by omega)
theorem nodup_asc {l : List Int} (h : l.Pairwise (· ≤ ·)) (hn : l.Nodup) : l.Pairwise (· < ·) := by
  have := h.and hn
  exact this.imp (fun ⟨h1, h2⟩ => by
    have : ¬ _ = _ := h2
    omega)

theorem set_self {α : Type} {l : List α} {k : Nat} {s : α} (h : l[k]? = some s) : l.set k s = l := by
  apply List.ext_getElem?
  intro j
  rw [List.getElem?_set]
  split
  · rename_i e
    subst e
    rw [if_pos (List.getElem?_eq_some_iff.1 h).1, h]
  · rfl

/-! ### validity -/
def Sl.lvl (ls : List Sl) (i : Int) : Int := (Sl.at_ ls (Sl.ix ls i)).prio
def Fa.descAt (ls : List Sl) (st : List Int) : Nat → Bool
  | 0 => true
  | j + 1 => decide (Sl.lvl ls (st.getD (j + 1) 0) < Sl.lvl ls (st.getD j 0))
def Fa.descTo (ls : List Sl) (st : List Int) : Nat → Bool
  | 0 => true
  | k + 1 => Fa.descTo ls st k && Fa.descAt ls st k
def Fa.same (st : List Int) (ls : List Sl) : Bool := (st.mergeSort fun x y => decide (x ≤ y)) == Sl.active ls
def Fa.good (m : Int) (st : List Int) (ls : List Sl) (lw : List Wt) : Bool := (inB m 0 16 && Qu.good ls lw) && (Fa.same st ls && Fa.descTo ls st st.length)
def Fa.okAt (ls : List Sl) (st : List Int) (i : Nat) (x : Int) : Bool := ((Sl.active ls).contains x && !(st.take i).contains x) && Fa.descAt ls st i
def Fa.okTo (ls : List Sl) (st : List Int) : Nat → Bool
  | 0 => true
  | k + 1 => Fa.okTo ls st k && (match st[k]? with | some x => Fa.okAt ls st k x | none => true)
theorem Fa.okTo_succ {ls : List Sl} {st : List Int} {k : Nat} {x : Int} (h : st[k]? = some x) : Fa.okTo ls st (k + 1) = (Fa.okTo ls st k && Fa.okAt ls st k x) := by simp [Fa.okTo, h]
theorem Fa.okTo_iff {ls : List Sl} {st : List Int} : ∀ {k : Nat}, Fa.okTo ls st k = true ↔ ∀ (j : Nat) (x : Int), j < k → st[j]? = some x → Fa.okAt ls st j x = true
  | 0 => by simp [Fa.okTo]
  | k + 1 => by
    have ih := Fa.okTo_iff (ls := ls) (st := st) (k := k)
    rw [Fa.okTo, Bool.and_eq_true, ih]
    constructor
    · rintro ⟨h1, h2⟩ j s hj hs
      by_cases hjk : j = k
      · subst hjk; rw [hs] at h2; exact h2
      · exact h1 j s (by omega) hs
    · intro h
      refine ⟨fun j s hj hs => h j s (by omega) hs, ?_⟩
      cases hk : st[k]? with
      | none => rfl
      | some s => exact h k s (by omega) hk
theorem Fa.descTo_iff {ls : List Sl} {st : List Int} : ∀ {k : Nat}, Fa.descTo ls st k = true ↔ ∀ j, j < k → Fa.descAt ls st j = true
  | 0 => by simp [Fa.descTo]
  | k + 1 => by
    have ih := Fa.descTo_iff (ls := ls) (st := st) (k := k)
    rw [Fa.descTo, Bool.and_eq_true, ih]
    constructor
    · rintro ⟨h1, h2⟩ j hj
      by_cases hjk : j = k
      · subst hjk; exact h2
      · exact h1 j (by omega)
    · exact fun h => ⟨fun j hj => h j (by omega), h k (by omega)⟩
theorem Sl.active_asc (ls : List Sl) : (Sl.active ls).Pairwise (· < ·) := accL_asc _ _ ls
theorem Sl.active_mem {ls : List Sl} {i : Int} : i ∈ Sl.active ls ↔ ∃ s ∈ ls, Sl.isAct s = true ∧ s.irq = i := accL_mem _ _ ls i
theorem Sl.active_len (ls : List Sl) : (Sl.active ls).length ≤ ls.length := accL_len _ _ ls
theorem Fa.same_iff {st : List Int} {ls : List Sl} : Fa.same st ls = true ↔ st.Nodup ∧ ∀ i, i ∈ st ↔ i ∈ Sl.active ls := by
  rw [Fa.same, beq_iff_eq]
  have hp := sortI_perm st
  constructor
  · intro h
    rw [h] at hp
    exact ⟨hp.nodup_iff.1 (asc_nodup (Sl.active_asc ls)), fun i => hp.mem_iff.symm⟩
  · rintro ⟨hn, hm⟩
    have h1 := nodup_asc (sortI_asc st) (hp.nodup_iff.2 hn)
    have h2 := asc_sub _ _ h1 (Sl.active_asc ls) (fun x hx => (hm x).1 (hp.mem_iff.1 hx))
    have h3 := asc_sub _ _ (Sl.active_asc ls) h1 (fun x hx => hp.mem_iff.2 ((hm x).2 hx))
    exact h2.eq_of_length (Nat.le_antisymm h2.length_le h3.length_le)
/-- the reference's own test -/
theorem Fa.ok_eq (st : List Int) (ls : List Sl) : (Fa.okTo ls st st.length && decide (st.length = (Sl.active ls).length)) = (Fa.same st ls && Fa.descTo ls st st.length) := by
  rw [Bool.eq_iff_iff]
  simp only [Bool.and_eq_true, decide_eq_true_eq, Fa.okTo_iff, Fa.same_iff, Fa.descTo_iff]
  constructor
  · rintro ⟨h1, h2⟩
    have hx : ∀ (j : Nat) (x : Int), st[j]? = some x → x ∈ Sl.active ls ∧ x ∉ st.take j ∧ Fa.descAt ls st j = true := fun j x hj => by
      have := h1 j x (List.getElem?_eq_some_iff.1 hj).1 hj
      simp only [Fa.okAt, Bool.and_eq_true, Bool.not_eq_true', List.contains_eq_mem, decide_eq_true_eq, decide_eq_false_iff_not] at this
      exact ⟨this.1.1, this.1.2, this.2⟩
    have hn : st.Nodup := by
      unfold List.Nodup
      rw [List.pairwise_iff_getElem]
      intro i j hi hj hij e
      refine (hx j _ (List.getElem?_eq_getElem hj)).2.1 ?_
      rw [← e, List.mem_take_iff_getElem]
      exact ⟨i, by omega, rfl⟩
    have hs : ∀ x ∈ st, x ∈ Sl.active ls := fun x hxm => by
      obtain ⟨j, hj⟩ := List.getElem?_of_mem hxm
      exact (hx j x hj).1
    have hp := sortI_perm st
    have hl := (asc_sub _ _ (nodup_asc (sortI_asc st) (hp.nodup_iff.2 hn)) (Sl.active_asc ls) (fun x hx => hs x (hp.mem_iff.1 hx))).eq_of_length (by rw [hp.length_eq]; exact h2)
    refine ⟨⟨hn, fun i => ?_⟩, fun j hj => (hx j _ (List.getElem?_eq_getElem hj)).2.2⟩
    rw [← hl]; exact hp.mem_iff.symm
  · rintro ⟨⟨hn, hm⟩, hd⟩
    refine ⟨fun j x hj hx => ?_, ?_⟩
    · simp only [Fa.okAt, Bool.and_eq_true, Bool.not_eq_true', List.contains_eq_mem, decide_eq_true_eq, decide_eq_false_iff_not]
      refine ⟨⟨(hm x).1 (List.mem_of_getElem? hx), fun hc => ?_⟩, hd j hj⟩
      rw [List.mem_take_iff_getElem] at hc
      obtain ⟨i, hi, e⟩ := hc
      obtain ⟨_, e2⟩ := List.getElem?_eq_some_iff.1 hx
      exact (List.pairwise_iff_getElem.1 hn) i j (by omega) hj (by omega) (by rw [e, e2])
    · have hp := sortI_perm st
      have h1 := nodup_asc (sortI_asc st) (hp.nodup_iff.2 hn)
      have h2 := asc_sub _ _ h1 (Sl.active_asc ls) (fun x hx => (hm x).1 (hp.mem_iff.1 hx))
      have h3 := asc_sub _ _ (Sl.active_asc ls) h1 (fun x hx => hp.mem_iff.2 ((hm x).2 hx))
      rw [← hp.length_eq]
      exact Nat.le_antisymm h2.length_le h3.length_le

/-! ### in words -/
/-- i is active, at priority p -/
def Sl.Act (ls : List Sl) (i p : Int) : Prop := ∃ s ∈ ls, Sl.isAct s = true ∧ s.irq = i ∧ s.prio = p
theorem Sl.isAct_used {s : Sl} (h : Sl.isAct s = true) : ¬ s.state = 0 := by intro e; simp [Sl.isAct, e] at h
theorem Sl.lvl_of {ls : List Sl} (hg : Sl.good ls = true) {k : Nat} {s : Sl} (hs : ls[k]? = some s) (h0 : ¬ s.state = 0) : Sl.ix ls s.irq = k ∧ Sl.lvl ls s.irq = s.prio := by
  have h := Sl.ix_of hg hs h0
  exact ⟨h, by rw [Sl.lvl, h, Sl.at_get hs]⟩
theorem Sl.act_lvl {ls : List Sl} (hg : Sl.good ls = true) {i p : Int} (h : Sl.Act ls i p) : Sl.lvl ls i = p := by
  obtain ⟨s, hs, ha, rfl, rfl⟩ := h
  obtain ⟨k, hk⟩ := List.getElem?_of_mem hs
  exact (Sl.lvl_of hg hk (Sl.isAct_used ha)).2
theorem Sl.act_active {ls : List Sl} {i : Int} : i ∈ Sl.active ls ↔ ∃ p, Sl.Act ls i p := by
  rw [Sl.active_mem]
  constructor
  · rintro ⟨s, hs, ha, hi⟩; exact ⟨s.prio, s, hs, ha, hi, rfl⟩
  · rintro ⟨p, s, hs, ha, hi, _⟩; exact ⟨s, hs, ha, hi⟩
/-- a valid stack beside slots -/
def Fa.Ok (st : List Int) (ls : List Sl) : Prop := st.Nodup ∧ (∀ i, i ∈ st ↔ ∃ p, Sl.Act ls i p) ∧ st.Pairwise (fun a b => Sl.lvl ls b < Sl.lvl ls a)
theorem Fa.desc_iff {ls : List Sl} {st : List Int} : Fa.descTo ls st st.length = true ↔ st.Pairwise (fun a b => Sl.lvl ls b < Sl.lvl ls a) := by
  rw [Fa.descTo_iff]
  constructor
  · intro h
    have key : ∀ (d i : Nat) (a b : Int), st[i]? = some a → st[i + d + 1]? = some b → Sl.lvl ls b < Sl.lvl ls a := by
      intro d
      induction d with
      | zero =>
        intro i a b ha hb
        have := h (i + 1) (List.getElem?_eq_some_iff.1 hb).1
        simp only [Nat.add_zero] at hb
        simp only [Fa.descAt, decide_eq_true_eq, List.getD_eq_getElem?_getD, ha, hb, Option.getD_some] at this
        exact this
      | succ d ih =>
        intro i a b ha hb
        have hlt := (List.getElem?_eq_some_iff.1 hb).1
        have hm : st[i + d + 1]? = some st[i + d + 1] := List.getElem?_eq_getElem (by omega)
        have h2 := h (i + d + 1 + 1) (by omega)
        rw [show i + (d + 1) + 1 = i + d + 1 + 1 by omega] at hb
        simp only [Fa.descAt, decide_eq_true_eq, List.getD_eq_getElem?_getD, hm, hb, Option.getD_some] at h2
        have := ih i a _ ha hm
        omega
    rw [List.pairwise_iff_getElem]
    intro i j hi hj hij
    exact key (j - i - 1) i _ _ (List.getElem?_eq_getElem hi) (by rw [show i + (j - i - 1) + 1 = j by omega]; exact List.getElem?_eq_getElem hj)
  · intro h j hj
    cases j with
    | zero => rfl
    | succ j =>
      have := (List.pairwise_iff_getElem.1 h) j (j + 1) (by omega) hj (by omega)
      simp only [Fa.descAt, decide_eq_true_eq, List.getD_eq_getElem?_getD, List.getElem?_eq_getElem (show j < st.length by omega), List.getElem?_eq_getElem hj, Option.getD_some]
      exact this
theorem Fa.good_iff {m : Int} {st : List Int} {ls : List Sl} {lw : List Wt} : Fa.good m st ls lw = true ↔ inB m 0 16 = true ∧ Qu.good ls lw = true ∧ Fa.Ok st ls := by
  simp only [Fa.good, Bool.and_eq_true, Fa.same_iff, Fa.desc_iff, Fa.Ok, Sl.act_active, and_assoc]
theorem Fa.ok_len {st : List Int} {ls : List Sl} (h : Fa.Ok st ls) : st.length ≤ ls.length := by
  have hp := sortI_perm st
  have h1 := nodup_asc (sortI_asc st) (hp.nodup_iff.2 h.1)
  have h2 := asc_sub _ _ h1 (Sl.active_asc ls) (fun x hx => Sl.act_active.2 ((h.2.1 x).1 (hp.mem_iff.1 hx)))
  have := h2.length_le
  rw [hp.length_eq] at this
  have := Sl.active_len ls
  omega
/-- an element of a valid stack lies in a slot -/
theorem Fa.ok_slot {st : List Int} {ls : List Sl} (hg : Sl.good ls = true) (h : Fa.Ok st ls) {i : Int} (hi : i ∈ st) : ∃ (k : Nat) (s : Sl), ls[k]? = some s ∧ Sl.isAct s = true ∧ s.irq = i ∧ Sl.ix ls i = k ∧ Sl.lvl ls i = s.prio := by
  obtain ⟨p, s, hs, ha, rfl, _⟩ := (h.2.1 i).1 hi
  obtain ⟨k, hk⟩ := List.getElem?_of_mem hs
  have := Sl.lvl_of hg hk (Sl.isAct_used ha)
  exact ⟨k, s, hk, ha, rfl, this.1, this.2⟩
/-- slots with the same active interrupts bear the same stacks -/
theorem Fa.ok_act {st : List Int} {ls ls' : List Sl} (hg : Sl.good ls = true) (hg' : Sl.good ls' = true) (h : Fa.Ok st ls) (ha : ∀ i p, Sl.Act ls' i p ↔ Sl.Act ls i p) : Fa.Ok st ls' := by
  have hl : ∀ i ∈ st, Sl.lvl ls' i = Sl.lvl ls i := fun i hi => by
    obtain ⟨p, hp⟩ := (h.2.1 i).1 hi
    rw [Sl.act_lvl hg hp, Sl.act_lvl hg' ((ha i p).2 hp)]
  refine ⟨h.1, fun i => ?_, ?_⟩
  · rw [h.2.1 i]
    exact ⟨fun ⟨p, hp⟩ => ⟨p, (ha i p).2 hp⟩, fun ⟨p, hp⟩ => ⟨p, (ha i p).1 hp⟩⟩
  · rw [List.pairwise_iff_getElem] at *
    intro i j hi hj hij
    rw [hl _ (List.getElem_mem hi), hl _ (List.getElem_mem hj)]
    exact (List.pairwise_iff_getElem.1 h.2.2) i j hi hj hij
theorem Sl.act_set {ls : List Sl} {k : Nat} {s x : Sl} (hs : ls[k]? = some s) (i p : Int) : Sl.Act (ls.set k x) i p ↔ (Sl.isAct x = true ∧ x.irq = i ∧ x.prio = p) ∨ ∃ j u, j ≠ k ∧ ls[j]? = some u ∧ Sl.isAct u = true ∧ u.irq = i ∧ u.prio = p := by
  constructor
  · rintro ⟨u, hu, h⟩
    rcases mem_set_or hu with rfl | ⟨j, hj, hu⟩
    · exact .inl h
    · exact .inr ⟨j, u, hj, hu, h⟩
  · rintro (h | ⟨j, u, hj, hu, h⟩)
    · exact ⟨x, List.mem_of_getElem? (i := k) (by rw [List.getElem?_set, if_pos rfl, if_pos (List.getElem?_eq_some_iff.1 hs).1]), h⟩
    · exact ⟨u, List.mem_of_getElem? (i := j) (by rw [List.getElem?_set, if_neg (by omega)]; exact hu), h⟩
theorem Sl.act_at {ls : List Sl} {k : Nat} {s : Sl} (hs : ls[k]? = some s) (i p : Int) : Sl.Act ls i p ↔ (Sl.isAct s = true ∧ s.irq = i ∧ s.prio = p) ∨ ∃ j u, j ≠ k ∧ ls[j]? = some u ∧ Sl.isAct u = true ∧ u.irq = i ∧ u.prio = p := by
  have := Sl.act_set (x := s) hs i p
  rwa [set_self hs] at this
/-- setting a slot leaves the active ones if what stood there and what stands there are alike in that -/
theorem Sl.act_same {ls : List Sl} {k : Nat} {s x : Sl} (hs : ls[k]? = some s) (h : (Sl.isAct x = true ↔ Sl.isAct s = true) ∧ (Sl.isAct s = true → x.irq = s.irq ∧ x.prio = s.prio)) (i p : Int) : Sl.Act (ls.set k x) i p ↔ Sl.Act ls i p := by
  rw [Sl.act_set hs, Sl.act_at hs]
  refine or_congr ?_ Iff.rfl
  constructor
  · rintro ⟨h1, h2, h3⟩
    have h4 := h.1.1 h1
    have := h.2 h4
    exact ⟨h4, by rw [← this.1]; exact h2, by rw [← this.2]; exact h3⟩
  · rintro ⟨h1, h2, h3⟩
    have := h.2 h1
    exact ⟨h.1.2 h1, by rw [this.1]; exact h2, by rw [this.2]; exact h3⟩
theorem Qu.step_act {ls : List Sl} {lw : List Wt} (hs : Qu.settled ls lw = false) (i p : Int) : Sl.Act (Qu.step ls lw).1 i p ↔ Sl.Act ls i p := by
  obtain ⟨t, rest, rfl, hc⟩ := Qu.unsettled hs
  rcases hc with ⟨k, s, hk, _, hsk, h0⟩ | ⟨hf, k, s, hk, _, hsk, h1, _⟩
  · rw [Qu.step_free hk]
    exact Sl.act_same hsk ⟨by simp [Sl.isAct, Sl.pend, h0], fun h => by simp [Sl.isAct, h0] at h⟩ i p
  · rw [Qu.step_full hf hk hsk]
    exact Sl.act_same hsk ⟨by simp [Sl.isAct, Sl.pend, h1], fun h => by simp [Sl.isAct, h1] at h⟩ i p
theorem Qu.run_act : ∀ (n : Nat) (ls : List Sl) (lw : List Wt) (i p : Int), Sl.Act (Qu.run n ls lw).1 i p ↔ Sl.Act ls i p
  | 0, _, _, _, _ => Iff.rfl
  | n + 1, ls, lw, i, p => by
    cases hs : Qu.settled ls lw
    · rw [Qu.run, hs]
      simp only [Bool.false_eq_true, if_false]
      exact (Qu.run_act n _ _ i p).trans (Qu.step_act hs i p)
    · simp [Qu.run, hs]
theorem Qu.st_act (ls : List Sl) (lw : List Wt) (i p : Int) : Sl.Act (Qu.st ls lw).1 i p ↔ Sl.Act ls i p := Qu.run_act 1000 ls lw i p

/-! ### raising -/
theorem Qu.of_act {ls : List Sl} {lw : List Wt} {i p : Int} (hp : Qu.parts ls lw = true) (j q : Int) : Sl.Act (Qu.ofP ls lw i p).1 j q ↔ Sl.Act ls j q := by
  rw [Qu.ofP, Qu.st_act]
  have hg := (Qu.parts_get hp).1
  by_cases h1 : 0 ≤ Sl.ix ls i
  · rw [Qu.of_hit h1]
    obtain ⟨k, s, hk, _, hs, h0, _⟩ := Sl.ix_hit h1
    show Sl.Act (Sl.putR ls i p) j q ↔ _
    rw [(Sl.put_hit (p := p) hk hs).2]
    refine Sl.act_same hs ?_ j q
    unfold Sl.both
    split
    · rename_i h2; simp [Sl.isAct, h2]
    · simp
  · have h1' : Sl.ix ls i < 0 := by omega
    cases h2 : lw.any (Wt.isI i)
    · rw [Qu.of_new h1' h2]
    · rw [Qu.of_had h1' h2]
theorem Fa.raise_ok {st : List Int} {ls : List Sl} {lw : List Wt} {i p : Int} (hq : Qu.good ls lw = true) (hi : inB i 0 7 = true) (hpr : inB p 0 15 = true) (h : Fa.Ok st ls) : Fa.Ok st (Qu.ofP ls lw i p).1 := by
  have hp := (Qu.good_parts hq).1
  have hg2 := (Qu.parts_get (Qu.good_parts (Qu.ofP_good (ls := ls) (lw := lw) (i := i) (p := p) (by simp [Qu.ofOk, hq, hi, hpr]))).1).1
  exact Fa.ok_act (Qu.parts_get hp).1 hg2 h (fun j q => Qu.of_act hp j q)

/-! ### the running priority, taking -/
def Fa.run (st : List Int) (ls : List Sl) : Int := match st.getLast? with
  | some i => Sl.lvl ls i
  | none => 16
theorem Fa.run_nil (ls : List Sl) : Fa.run [] ls = 16 := rfl
theorem Fa.run_last {st : List Int} {ls : List Sl} {i : Int} (h : st.getLast? = some i) : Fa.run st ls = Sl.lvl ls i := by simp [Fa.run, h]
def minI (a b : Int) : Int := if a < b then a else b
def Fa.lim (m : Int) (st : List Int) (ls : List Sl) : Int := minI m (Fa.run st ls)
theorem Fa.lim_le (m : Int) (st : List Int) (ls : List Sl) : Fa.lim m st ls ≤ m ∧ Fa.lim m st ls ≤ Fa.run st ls := by
  unfold Fa.lim minI; split <;> omega
theorem Qu.tk_act {ls : List Sl} {m : Int} (hk : Sl.tkOk ls m = true) (j q : Int) : Sl.Act (Sl.tkS ls) j q ↔ (j = Sl.tkI ls ∧ q = (Sl.at_ ls (Sl.bx ls)).prio) ∨ Sl.Act ls j q := by
  obtain ⟨k, s, hb, _, hs, h1, _, e, e2⟩ := Sl.tkOk_hit hk
  rw [e, Sl.act_set hs, Sl.act_at hs, e2, hb, Sl.at_get hs]
  have hn : ¬ Sl.isAct s = true := by simp [Sl.isAct, h1]
  constructor
  · rintro (⟨_, h2, h3⟩ | h)
    · exact .inl ⟨h2.symm, h3.symm⟩
    · exact .inr (.inr h)
  · rintro (⟨rfl, rfl⟩ | ⟨h, _⟩ | h)
    · exact .inl ⟨rfl, rfl, rfl⟩
    · exact absurd h hn
    · exact .inr h
theorem Fa.last_least {st : List Int} {ls : List Sl} (h : st.Pairwise (fun a b => Sl.lvl ls b < Sl.lvl ls a)) {x : Int} (hx : x ∈ st) : Fa.run st ls ≤ Sl.lvl ls x := by
  obtain ⟨i, hi⟩ : ∃ i, st.getLast? = some i := by
    cases hl : st.getLast? with
    | none => rw [List.getLast?_eq_none_iff] at hl; subst hl; simp at hx
    | some i => exact ⟨i, rfl⟩
  rw [Fa.run_last hi]
  obtain ⟨j, hj, e⟩ := List.getElem_of_mem hx
  have hlast : st[st.length - 1]? = some i := by rw [← List.getLast?_eq_getElem?]; exact hi
  obtain ⟨hlt, e2⟩ := List.getElem?_eq_some_iff.1 hlast
  by_cases hjl : j = st.length - 1
  · subst hjl; rw [e] at e2; rw [e2]; exact Int.le_refl _
  · have := (List.pairwise_iff_getElem.1 h) j (st.length - 1) hj hlt (by omega)
    rw [e, e2] at this
    omega
theorem Fa.take_ok {st : List Int} {ls : List Sl} {lw : List Wt} {m : Int} (hp : Qu.parts ls lw = true) (h : Fa.Ok st ls) (hk : Sl.tkOk ls m = true) (hm : m ≤ Fa.run st ls) : Fa.Ok (st ++ [Sl.tkI ls]) (Sl.tkS ls) := by
  have hg := (Qu.parts_get hp).1
  have hg2 := (Qu.parts_get (Qu.tk_parts hp hk)).1
  have hact := Qu.tk_act hk
  obtain ⟨k, s, hb, hlt, hs, h1, hpm, e, e2⟩ := Sl.tkOk_hit hk
  have hnew : Sl.tkI ls ∉ st := fun hi => by
    obtain ⟨k2, s2, hs2, ha, hi2, hx, _⟩ := Fa.ok_slot hg h hi
    have h3 := (Sl.lvl_of hg hs (by omega)).1
    rw [e2] at hx
    rw [hx] at h3
    have : k2 = k := by omega
    subst this
    rw [hs] at hs2; injection hs2 with hs2; subst hs2
    simp [Sl.isAct, h1] at ha
  have hl : ∀ i ∈ st, Sl.lvl (Sl.tkS ls) i = Sl.lvl ls i := fun i hi => by
    obtain ⟨p, hpa⟩ := (h.2.1 i).1 hi
    rw [Sl.act_lvl hg hpa, Sl.act_lvl hg2 ((hact i p).2 (.inr hpa))]
  have hl2 : Sl.lvl (Sl.tkS ls) (Sl.tkI ls) = s.prio := by
    refine Sl.act_lvl hg2 ((hact _ _).2 (.inl ⟨rfl, ?_⟩))
    rw [hb, Sl.at_get hs]
  refine ⟨?_, fun i => ?_, ?_⟩
  · unfold List.Nodup
    rw [List.pairwise_append]
    exact ⟨h.1, by simp, fun a ha b hb => by simp at hb; subst hb; exact fun e => hnew (e ▸ ha)⟩
  · rw [List.mem_append, List.mem_singleton, h.2.1 i]
    constructor
    · rintro (⟨p, hpa⟩ | rfl)
      · exact ⟨p, (hact i p).2 (.inr hpa)⟩
      · exact ⟨_, (hact _ _).2 (.inl ⟨rfl, rfl⟩)⟩
    · rintro ⟨p, hpa⟩
      rcases (hact i p).1 hpa with ⟨rfl, _⟩ | hpa
      · exact .inr rfl
      · exact .inl ⟨p, hpa⟩
  · rw [List.pairwise_append]
    refine ⟨?_, by simp, fun a ha b hb => ?_⟩
    · rw [List.pairwise_iff_getElem]
      intro i j hi hj hij
      rw [hl _ (List.getElem_mem hi), hl _ (List.getElem_mem hj)]
      exact (List.pairwise_iff_getElem.1 h.2.2) i j hi hj hij
    · simp at hb; subst hb
      rw [hl2, hl a ha]
      have := Fa.last_least h.2.2 ha
      omega

/-! ### leaving -/
theorem Sl.end_act {ls : List Sl} (hg : Sl.good ls = true) {i : Int} (hk : Sl.endOk ls i = true) (j q : Int) : Sl.Act (Sl.endR ls i) j q ↔ Sl.Act ls j q ∧ j ≠ i := by
  obtain ⟨k, s, hx, _, hs, h0, hi, h1, e⟩ := Sl.endOk_hit hk
  rw [e, Sl.act_set hs, Sl.act_at hs]
  have hn : ¬ Sl.isAct (Sl.ended s) = true := by
    unfold Sl.ended; split <;> simp [Sl.isAct]
  constructor
  · rintro (⟨h, _⟩ | ⟨j', u, hj, hu, ha, h2, h3⟩)
    · exact absurd h hn
    · refine ⟨.inr ⟨j', u, hj, hu, ha, h2, h3⟩, ?_⟩
      rw [← h2, ← hi]
      exact Sl.good_two hg hj hu hs (Sl.isAct_used ha) h0
  · rintro ⟨⟨_, h2, _⟩ | h, hne⟩
    · exact absurd (h2.symm.trans hi) hne
    · exact .inr h
theorem Sl.act_endOk {ls : List Sl} (hg : Sl.good ls = true) {i p : Int} (h : Sl.Act ls i p) : Sl.endOk ls i = true := by
  obtain ⟨s, hs, ha, rfl, _⟩ := h
  obtain ⟨k, hk⟩ := List.getElem?_of_mem hs
  have hx := (Sl.lvl_of hg hk (Sl.isAct_used ha)).1
  exact (Sl.end_hit hx hk (fun e => by simp [Sl.isAct, e] at ha)).1
theorem Fa.leave_ok {st : List Int} {ls : List Sl} {lw : List Wt} {i : Int} (hp : Qu.parts ls lw = true) (h : Fa.Ok (st ++ [i]) ls) : Sl.endOk ls i = true ∧ Fa.Ok st (Qu.enP ls lw i).1 := by
  have hg := (Qu.parts_get hp).1
  obtain ⟨p0, hpa0⟩ := (h.2.1 i).1 (by simp)
  have hk := Sl.act_endOk hg hpa0
  have hg2 := (Qu.parts_get (Qu.good_parts (Qu.eiP_good hp hk)).1).1
  have hact : ∀ j q, Sl.Act (Qu.enP ls lw i).1 j q ↔ Sl.Act ls j q ∧ j ≠ i := fun j q => by rw [Qu.enP, Qu.st_act]; exact Sl.end_act hg hk j q
  obtain ⟨hn, hm, hd⟩ := h
  unfold List.Nodup at hn
  rw [List.pairwise_append] at hn hd
  have hni : ∀ x ∈ st, x ≠ i := fun x hx => hn.2.2 x hx i (by simp)
  have hl : ∀ x ∈ st, Sl.lvl (Qu.enP ls lw i).1 x = Sl.lvl ls x := fun x hx => by
    obtain ⟨p, hpa⟩ := (hm x).1 (by simp [hx])
    rw [Sl.act_lvl hg hpa, Sl.act_lvl hg2 ((hact x p).2 ⟨hpa, hni x hx⟩)]
  refine ⟨hk, hn.1, fun x => ?_, ?_⟩
  · constructor
    · intro hx
      obtain ⟨p, hpa⟩ := (hm x).1 (by simp [hx])
      exact ⟨p, (hact x p).2 ⟨hpa, hni x hx⟩⟩
    · rintro ⟨p, hpa⟩
      obtain ⟨hpa, hne⟩ := (hact x p).1 hpa
      rcases List.mem_append.1 ((hm x).2 ⟨p, hpa⟩) with hx | hx
      · exact hx
      · exact absurd (by simpa using hx) hne
  · rw [List.pairwise_iff_getElem]
    intro a b ha hb hab
    rw [hl _ (List.getElem_mem ha), hl _ (List.getElem_mem hb)]
    exact (List.pairwise_iff_getElem.1 hd.1) a b ha hb hab

end Go.Proofs.YtengaccnncnipaaGreat
