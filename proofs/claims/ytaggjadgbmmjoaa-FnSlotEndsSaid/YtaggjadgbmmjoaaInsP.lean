/- Insertion into a list from its end, and sorting by it: plain law. No condition. -/
import Derived.Test.YtaggjadgbmmjoaaBase2
namespace Go.Proofs.Ytaggjadgbmmjoaa

section
variable {α : Type} (lt : α → α → Bool)
/-- where x comes to stand in l, walked from the end: behind the last element that x is not before -/
def bk (x : α) : List α → Nat
  | [] => 0
  | y :: l => if bk x l = 0 && lt x y then 0 else bk x l + 1
/-- x, inserted into l from the end -/
def insK (l : List α) (x : α) : List α := l.take (bk lt x l) ++ x :: l.drop (bk lt x l)
/-- sorting by insertion: elements that are alike keep their order -/
def sortK (l : List α) : List α := l.foldl (insK lt) []
variable {lt}
theorem bk_le (x : α) : ∀ l : List α, bk lt x l ≤ l.length
  | [] => Nat.le_refl _
  | y :: l => by have := bk_le x l; simp only [bk, List.length_cons]; split <;> omega
theorem bk_eq (x : α) : ∀ (l : List α) (k : Nat), k ≤ l.length → (∀ (j : Nat) (y : α), k ≤ j → l[j]? = some y → lt x y = true) → (∀ (j : Nat) (y : α), k = j + 1 → l[j]? = some y → lt x y = false) → bk lt x l = k
  | [], k, hk, _, _ => by simp at hk; simp [bk, hk]
  | z :: l, 0, _, h1, _ => by
    have := bk_eq x l 0 (Nat.zero_le _) (fun j y _ hj => h1 (j + 1) y (Nat.zero_le _) (by simpa using hj)) (fun j y h => by omega)
    simp [bk, this, h1 0 z (Nat.le_refl _) (by simp)]
  | z :: l, k + 1, hk, h1, h2 => by
    have hk' : k ≤ l.length := by simpa using hk
    have := bk_eq x l k hk' (fun j y hj hy => h1 (j + 1) y (by omega) (by simpa using hy)) (fun j y hj hy => h2 (j + 1) y (by omega) (by simpa using hy))
    simp only [bk, this]
    by_cases h0 : k = 0
    · subst h0
      simp [h2 0 z rfl (by simp)]
    · simp [h0]
theorem insK_len (l : List α) (x : α) : (insK lt l x).length = l.length + 1 := by
  have := bk_le (lt := lt) x l
  simp only [insK, List.length_append, List.length_take, List.length_cons, List.length_drop]; omega
theorem insK_mem {l : List α} {x y : α} (h : y ∈ insK lt l x) : y = x ∨ y ∈ l := by
  simp only [insK, List.mem_append, List.mem_cons] at h
  rcases h with h | h | h
  · exact .inr (List.mem_of_mem_take h)
  · exact .inl h
  · exact .inr (List.mem_of_mem_drop h)
theorem mem_insK {l : List α} {x y : α} (h : y = x ∨ y ∈ l) : y ∈ insK lt l x := by
  simp only [insK, List.mem_append, List.mem_cons]
  rcases h with h | h
  · exact .inr (.inl h)
  · rw [← List.take_append_drop (bk lt x l) l, List.mem_append] at h
    rcases h with h | h
    · exact .inl h
    · exact .inr (.inr h)
theorem foldIns_mem {y : α} : ∀ (l acc : List α), y ∈ l.foldl (insK lt) acc ↔ y ∈ l ∨ y ∈ acc
  | [], acc => by simp
  | x :: l, acc => by
    simp only [List.foldl_cons, foldIns_mem l, List.mem_cons]
    constructor
    · rintro (h | h)
      · exact .inl (.inr h)
      · rcases insK_mem h with h | h
        · exact .inl (.inl h)
        · exact .inr h
    · rintro ((h | h) | h)
      · exact .inr (mem_insK (.inl h))
      · exact .inl h
      · exact .inr (mem_insK (.inr h))
theorem foldIns_len : ∀ (l acc : List α), (l.foldl (insK lt) acc).length = l.length + acc.length
  | [], acc => by simp
  | x :: l, acc => by simp only [List.foldl_cons, foldIns_len l, insK_len, List.length_cons]; omega
theorem sortK_mem {l : List α} {y : α} : y ∈ sortK lt l ↔ y ∈ l := by simp [sortK, foldIns_mem]
theorem sortK_len (l : List α) : (sortK lt l).length = l.length := by simp [sortK, foldIns_len]
theorem sortK_snoc (l : List α) (x : α) : sortK lt (l ++ [x]) = insK lt (sortK lt l) x := by simp [sortK]
theorem sortK_pre {l : List α} {k : Nat} {x : α} (h : l[k]? = some x) : sortK lt (l.take (k + 1)) = insK lt (sortK lt (l.take k)) x := by
  rw [List.take_add_one, h]; exact sortK_snoc _ _

/-- while x walks forward: x stands at place j of the first ones -/
def walkK (l : List α) (x : α) (j : Nat) : List α := l.take j ++ x :: l.drop j
theorem walkK_end (l : List α) (x : α) : walkK l x l.length = l ++ [x] := by simp [walkK]
theorem walkK_at {l : List α} {x : α} {j : Nat} (hj : j ≤ l.length) : (walkK l x j)[j]? = some x := by
  have hl : (l.take j).length = j := by rw [List.length_take]; omega
  rw [walkK, List.getElem?_append_right (by omega), hl, Nat.sub_self]; rfl
theorem walkK_before {l : List α} {x : α} {j : Nat} (hj : j < l.length) : (walkK l x (j + 1))[j]? = l[j]? := by
  have hl : (l.take (j + 1)).length = j + 1 := by rw [List.length_take]; omega
  rw [walkK, List.getElem?_append_left (by omega), List.getElem?_take, if_pos (by omega)]
theorem walkK_step {l rest : List α} {x y : α} {j : Nat} (hy : l[j]? = some y) : (((walkK l x (j + 1) ++ rest).set (j + 1) y).set j x) = walkK l x j ++ rest := by
  obtain ⟨hj, rfl⟩ := List.getElem?_eq_some_iff.1 hy
  have hl : (l.take j).length = j := by rw [List.length_take]; omega
  have h1 : walkK l x (j + 1) ++ rest = l.take j ++ (l[j] :: x :: (l.drop (j + 1) ++ rest)) := by
    rw [walkK, List.take_succ_eq_append_getElem hj]; simp only [List.append_assoc, List.cons_append, List.nil_append]
  have h2 : walkK l x j ++ rest = l.take j ++ (x :: l[j] :: (l.drop (j + 1) ++ rest)) := by
    rw [walkK, List.drop_eq_getElem_cons hj]; simp only [List.append_assoc, List.cons_append]
  rw [h1, h2, List.set_append_right _ _ (by omega), hl, show j + 1 - j = 1 by omega, List.set_append_right _ _ (by omega), hl, Nat.sub_self]
  rfl
theorem walkK_ins {l : List α} {x : α} {j : Nat} (h : bk lt x l = j) : walkK l x j = insK lt l x := by subst h; rfl
end

end Go.Proofs.Ytaggjadgbmmjoaa
