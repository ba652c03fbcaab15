/- Where a waiting interrupt comes to stand among others: plain lemmas. No condition. -/
import Derived.Test.YtaggjadgbmmjoaaUrg
namespace Go.Proofs.Ytaggjadgbmmjoaa

/-- where x comes to stand: behind all leading ones that are more urgent -/
def Wt.pos (x : Wt) : List Wt → Nat
  | [] => 0
  | y :: l => if y.lt x then Wt.pos x l + 1 else 0
def Wt.ins (l : List Wt) (x : Wt) : List Wt := l.take (Wt.pos x l) ++ x :: l.drop (Wt.pos x l)
theorem Wt.pos_le (x : Wt) : ∀ l : List Wt, Wt.pos x l ≤ l.length
  | [] => Nat.le_refl _
  | y :: l => by have := Wt.pos_le x l; simp only [Wt.pos, List.length_cons]; split <;> omega
theorem Wt.pos_eq (x : Wt) : ∀ (l : List Wt) (k : Nat), k ≤ l.length → (∀ (j : Nat) (y : Wt), j < k → l[j]? = some y → y.lt x = true) → (∀ y : Wt, l[k]? = some y → y.lt x = false) → Wt.pos x l = k
  | [], k, hk, _, _ => by simp at hk; simp [Wt.pos, hk]
  | z :: l, 0, _, _, h2 => by simp [Wt.pos, h2 z (by simp)]
  | z :: l, k + 1, hk, h1, h2 => by
    have := Wt.pos_eq x l k (by simpa using hk) (fun j y hj hy => h1 (j + 1) y (by omega) (by simpa using hy)) (fun y hy => h2 y (by simpa using hy))
    simp [Wt.pos, h1 0 z (by omega) (by simp), this]
theorem Wt.ins_len (l : List Wt) (x : Wt) : (Wt.ins l x).length = l.length + 1 := by
  have := Wt.pos_le x l
  simp only [Wt.ins, List.length_append, List.length_take, List.length_cons, List.length_drop]; omega

theorem Wt.ins_nil (x : Wt) : Wt.ins [] x = [x] := rfl
theorem Wt.ins_cons (y x : Wt) (l : List Wt) : Wt.ins (y :: l) x = if y.lt x then y :: Wt.ins l x else x :: y :: l := by
  unfold Wt.ins; rw [Wt.pos]
  by_cases h : y.lt x = true
  · simp [h]
  · simp [h]
theorem Wt.ins_mem {y x : Wt} : ∀ {l : List Wt}, y ∈ Wt.ins l x ↔ y = x ∨ y ∈ l
  | [] => by simp [Wt.ins_nil]
  | z :: l => by
    have ih := Wt.ins_mem (y := y) (x := x) (l := l)
    rw [Wt.ins_cons]
    split
    · rw [List.mem_cons, ih, List.mem_cons]
      constructor
      · rintro (h | h | h)
        · exact .inr (.inl h)
        · exact .inl h
        · exact .inr (.inr h)
      · rintro (h | h | h)
        · exact .inr (.inl h)
        · exact .inl h
        · exact .inr (.inr h)
    · simp
theorem Wt.lt_iff (x y : Wt) : x.lt y = true ↔ x.prio < y.prio ∨ x.prio = y.prio ∧ x.irq < y.irq := by simp [Wt.lt]
theorem Wt.lt_trans {x y z : Wt} (h : x.lt y = true) (k : y.lt z = true) : x.lt z = true := by rw [Wt.lt_iff] at *; omega
theorem Wt.lt_irrefl (x : Wt) : x.lt x = false := by rw [Bool.eq_false_iff, ne_eq, Wt.lt_iff]; omega
theorem Wt.lt_other {x y : Wt} (h : ¬ x.lt y = true) (hi : x.irq ≠ y.irq) : y.lt x = true := by rw [Wt.lt_iff] at *; omega
theorem Wt.lt_asymm {x y : Wt} (h : x.lt y = true) : y.lt x = false := by rw [Bool.eq_false_iff, ne_eq]; rw [Wt.lt_iff] at *; omega
theorem Wt.ins_sorted {x : Wt} : ∀ {l : List Wt}, l.Pairwise (fun a b => a.lt b = true) → (∀ y ∈ l, y.irq ≠ x.irq) → (Wt.ins l x).Pairwise (fun a b => a.lt b = true)
  | [], _, _ => by simp [Wt.ins_nil]
  | y :: l, h, hx => by
    rw [List.pairwise_cons] at h
    rw [Wt.ins_cons]
    split
    · rename_i hq
      rw [List.pairwise_cons]
      refine ⟨fun z hz => ?_, Wt.ins_sorted h.2 (fun z hz => hx z (List.mem_cons_of_mem _ hz))⟩
      rcases Wt.ins_mem.1 hz with rfl | hz
      · exact hq
      · exact h.1 z hz
    · rename_i hq
      have hxy : x.lt y = true := Wt.lt_other hq (hx y (by simp))
      rw [List.pairwise_cons]
      refine ⟨fun z hz => ?_, List.pairwise_cons.2 h⟩
      rcases List.mem_cons.1 hz with rfl | hz
      · exact hxy
      · exact Wt.lt_trans hxy (h.1 z hz)
theorem Wt.ins_irqs {x : Wt} : ∀ {l : List Wt}, l.Pairwise (fun a b => a.irq ≠ b.irq) → (∀ y ∈ l, y.irq ≠ x.irq) → (Wt.ins l x).Pairwise (fun a b => a.irq ≠ b.irq)
  | [], _, _ => by simp [Wt.ins_nil]
  | y :: l, h, hx => by
    rw [List.pairwise_cons] at h
    rw [Wt.ins_cons]
    split
    · rw [List.pairwise_cons]
      refine ⟨fun z hz => ?_, Wt.ins_irqs h.2 (fun z hz => hx z (List.mem_cons_of_mem _ hz))⟩
      rcases Wt.ins_mem.1 hz with rfl | hz
      · exact hx y (by simp)
      · exact h.1 z hz
    · rw [List.pairwise_cons]
      exact ⟨fun z hz => (hx z hz).symm, List.pairwise_cons.2 h⟩

end Go.Proofs.Ytaggjadgbmmjoaa
