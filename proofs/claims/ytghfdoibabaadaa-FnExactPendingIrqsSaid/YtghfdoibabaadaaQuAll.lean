/- All that is pending, in order: sorting gives what inserting one by one gives. No condition. -/
import Derived.Test.YtghfdoibabaadaaQuMath2
import Derived.Test.YtghfdoibabaadaaInsP
namespace Go.Proofs.Ytghfdoibabaadaa

theorem Wt.pos_before {x : Wt} : ∀ {l : List Wt} {j : Nat} {y : Wt}, j < Wt.pos x l → l[j]? = some y → y.lt x = true
  | [], _, _, h, _ => by simp [Wt.pos] at h
  | z :: l, j, y, h, hy => by
    rw [Wt.pos] at h
    split at h
    · rename_i hz
      cases j with
      | zero => simp at hy; subst hy; exact hz
      | succ j => exact Wt.pos_before (l := l) (j := j) (by omega) (by simpa using hy)
    · omega
theorem Wt.pos_at {x : Wt} : ∀ {l : List Wt} {y : Wt}, l[Wt.pos x l]? = some y → y.lt x = false
  | [], _, h => by simp at h
  | z :: l, y, h => by
    rw [Wt.pos] at h
    split at h
    · exact Wt.pos_at (l := l) (by simpa using h)
    · rename_i hz
      simp at h; subst h
      simpa using hz
theorem insK_ins {l : List Wt} {x : Wt} (hs : l.Pairwise (fun a b => a.lt b = true)) (hn : ∀ y ∈ l, y.irq ≠ x.irq) : insK Wt.lt l x = Wt.ins l x := by
  have hb : bk Wt.lt x l = Wt.pos x l := by
    refine bk_eq x l _ (Wt.pos_le x l) (fun j y hj hy => ?_) (fun j y hj hy => ?_)
    · have hlt := (List.getElem?_eq_some_iff.1 hy).1
      have hp : l[Wt.pos x l]? = some l[Wt.pos x l] := List.getElem?_eq_getElem (by omega)
      have h1 := Wt.lt_other (x := l[Wt.pos x l]) (y := x) (by rw [Wt.pos_at hp]; simp) (hn _ (List.getElem_mem _))
      by_cases hjp : j = Wt.pos x l
      · subst hjp
        rw [hp] at hy; injection hy with hy; rw [← hy]; exact h1
      · have h2 := (List.pairwise_iff_getElem.1 hs) (Wt.pos x l) j (by omega) hlt (by omega)
        obtain ⟨_, e⟩ := List.getElem?_eq_some_iff.1 hy
        rw [e] at h2
        exact Wt.lt_trans h1 h2
    · exact Wt.lt_asymm (Wt.pos_before (x := x) (j := j) (by omega) hy)
  rw [insK, hb, Wt.ins]
theorem sortK_sorted {l : List Wt} (hs : l.Pairwise (fun a b => a.lt b = true)) : sortK Wt.lt l = l := by
  have key : ∀ k, k ≤ l.length → sortK Wt.lt (l.take k) = l.take k := by
    intro k
    induction k with
    | zero => intro _; simp [sortK]
    | succ k ih =>
      intro hk
      have hx : l[k]? = some l[k] := List.getElem?_eq_getElem (by omega)
      rw [sortK_pre hx, ih (by omega), List.take_add_one, hx]
      have hb : bk Wt.lt l[k] (l.take k) = (l.take k).length := by
        refine bk_eq _ _ _ (Nat.le_refl _) (fun j y hj hy => ?_) (fun j y hj hy => ?_)
        · rw [List.getElem?_eq_none hj] at hy; cases hy
        · rw [List.getElem?_take] at hy
          split at hy
          · rename_i hjk
            have h2 := (List.pairwise_iff_getElem.1 hs) j k (by omega) (by omega) hjk
            obtain ⟨_, e⟩ := List.getElem?_eq_some_iff.1 hy
            rw [e] at h2
            exact Wt.lt_asymm h2
          · cases hy
      rw [insK, hb, List.take_length, List.drop_length]
      rfl
  have := key l.length (Nat.le_refl _)
  rwa [List.take_length] at this
theorem fold_ins : ∀ (xs l : List Wt), l.Pairwise (fun a b => a.lt b = true) → l.Pairwise (fun a b => a.irq ≠ b.irq) → xs.Pairwise (fun a b => a.irq ≠ b.irq) → (∀ x ∈ xs, ∀ y ∈ l, y.irq ≠ x.irq) →
    xs.foldl (insK Wt.lt) l = xs.foldl Wt.ins l ∧ (xs.foldl Wt.ins l).Pairwise (fun a b => a.lt b = true) ∧ (xs.foldl Wt.ins l).Pairwise (fun a b => a.irq ≠ b.irq)
  | [], l, h1, h2, _, _ => ⟨rfl, h1, h2⟩
  | x :: xs, l, h1, h2, h3, h4 => by
    rw [List.pairwise_cons] at h3
    have hx := h4 x (by simp)
    rw [List.foldl_cons, List.foldl_cons, insK_ins h1 hx]
    exact fold_ins xs (Wt.ins l x) (Wt.ins_sorted h1 hx) (Wt.ins_irqs h2 hx) h3.2 (fun y hy z hz => by
      rcases Wt.ins_mem.1 hz with rfl | hz
      · exact h3.1 y hy
      · exact h4 y (by simp [hy]) z hz)
theorem fold_mem {y : Wt} : ∀ (xs l : List Wt), y ∈ xs.foldl Wt.ins l ↔ y ∈ xs ∨ y ∈ l
  | [], l => by simp
  | x :: xs, l => by
    rw [List.foldl_cons, fold_mem xs, Wt.ins_mem, List.mem_cons]
    constructor
    · rintro (h | h | h)
      · exact .inl (.inr h)
      · exact .inl (.inl h)
      · exact .inr h
    · rintro ((h | h) | h)
      · exact .inr (.inl h)
      · exact .inl h
      · exact .inr (.inr h)
theorem Sl.isPend_used {s : Sl} (h : Sl.isPend s = true) : ¬ s.state = 0 := by
  intro e; simp [Sl.isPend, e] at h
theorem Sl.pends_mem {ls : List Sl} {y : Wt} : y ∈ Sl.pends ls ↔ ∃ s ∈ ls, Sl.isPend s = true ∧ s.wt = y := by
  simp [Sl.pends, and_assoc]
theorem Sl.pends_irqs {ls : List Sl} (hg : Sl.good ls = true) : (Sl.pends ls).Pairwise (fun a b => a.irq ≠ b.irq) := by
  rw [Sl.pends, List.pairwise_map, List.pairwise_filter, List.pairwise_iff_getElem]
  intro i j hi hj hij h1 h2
  exact Sl.good_two hg (by omega) (List.getElem?_eq_getElem hi) (List.getElem?_eq_getElem hj) (Sl.isPend_used h1) (Sl.isPend_used h2)
theorem Qu.all_facts {ls : List Sl} {lw : List Wt} (hp : Qu.parts ls lw = true) : sortK Wt.lt (lw ++ Sl.pends ls) = Qu.all ls lw ∧ (Qu.all ls lw).Pairwise (fun a b => a.lt b = true) ∧ (Qu.all ls lw).Pairwise (fun a b => a.irq ≠ b.irq) := by
  obtain ⟨hg, _, h2, h3, h4⟩ := Qu.parts_iff.1 hp
  have h := fold_ins (Sl.pends ls) lw h3 h4 (Sl.pends_irqs hg) (fun x hx y hy => by
    obtain ⟨s, hs, hps, rfl⟩ := Sl.pends_mem.1 hx
    exact (h2 y hy s hs (Sl.isPend_used hps)).symm)
  refine ⟨?_, h.2⟩
  rw [sortK, List.foldl_append]
  change (Sl.pends ls).foldl (insK Wt.lt) (sortK Wt.lt lw) = _
  rw [sortK_sorted h3]
  exact h.1
theorem Qu.all_mem {ls : List Sl} {lw : List Wt} {y : Wt} : y ∈ Qu.all ls lw ↔ y ∈ lw ∨ ∃ s ∈ ls, Sl.isPend s = true ∧ s.wt = y := by
  rw [Qu.all, fold_mem, Sl.pends_mem]; exact or_comm

end Go.Proofs.Ytghfdoibabaadaa
