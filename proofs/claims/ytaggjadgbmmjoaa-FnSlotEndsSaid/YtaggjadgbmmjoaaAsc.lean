/- Strictly ascending lists of numbers: plain law. No condition. -/
import Derived.Test.YtaggjadgbmmjoaaPut
namespace Go.Proofs.Ytaggjadgbmmjoaa

theorem asc_ext : ∀ (a b : List Int), a.Pairwise (· < ·) → b.Pairwise (· < ·) → (∀ x, x ∈ a ↔ x ∈ b) → a = b
  | [], [], _, _, _ => rfl
  | [], y :: b, _, _, h => by have := (h y).2 (by simp); simp at this
  | x :: a, [], _, _, h => by have := (h x).1 (by simp); simp at this
  | x :: a, y :: b, ha, hb, h => by
    rw [List.pairwise_cons] at ha hb
    have h1 := (h x).1 (by simp)
    have h2 := (h y).2 (by simp)
    simp only [List.mem_cons] at h1 h2
    have hxy : x = y := by
      rcases h1 with h1 | h1
      · exact h1
      · rcases h2 with h2 | h2
        · exact h2.symm
        · have := hb.1 x h1; have := ha.1 y h2; omega
    subst hxy
    congr 1
    refine asc_ext a b ha.2 hb.2 (fun z => ⟨fun hz => ?_, fun hz => ?_⟩)
    · have h3 := (h z).1 (List.mem_cons_of_mem _ hz)
      rcases List.mem_cons.1 h3 with h3 | h3
      · have := ha.1 z hz; omega
      · exact h3
    · have h3 := (h z).2 (List.mem_cons_of_mem _ hz)
      rcases List.mem_cons.1 h3 with h3 | h3
      · have := hb.1 z hz; omega
      · exact h3

theorem putL_cons (x y : Int) (l : List Int) : putL x (y :: l) = if y < x then y :: putL x l else x :: y :: l := by
  simp only [putL, lead]
  split <;> simp
theorem mem_putL (x y : Int) : ∀ l : List Int, y ∈ putL x l ↔ y = x ∨ y ∈ l
  | [] => by simp [putL]
  | z :: l => by
    rw [putL_cons]
    split
    · simp only [List.mem_cons, mem_putL x y l]
      constructor
      · rintro (h | h | h)
        · exact .inr (.inl h)
        · exact .inl h
        · exact .inr (.inr h)
      · rintro (h | h | h)
        · exact .inr (.inl h)
        · exact .inl h
        · exact .inr (.inr h)
    · simp
theorem putL_asc (x : Int) : ∀ l : List Int, l.Pairwise (· < ·) → x ∉ l → (putL x l).Pairwise (· < ·)
  | [], _, _ => by simp [putL]
  | y :: l, h, hx => by
    rw [List.pairwise_cons] at h
    simp only [List.mem_cons, not_or] at hx
    rw [putL_cons]
    split
    · rename_i hy
      rw [List.pairwise_cons]
      refine ⟨fun z hz => ?_, putL_asc x l h.2 hx.2⟩
      rcases (mem_putL x z l).1 hz with rfl | hz
      · exact hy
      · exact h.1 z hz
    · rename_i hy
      rw [List.pairwise_cons]
      refine ⟨fun z hz => ?_, List.pairwise_cons.2 h⟩
      rcases List.mem_cons.1 hz with rfl | hz
      · omega
      · have := h.1 z hz; omega
/-- the numbers f of those elements that p holds of, put in one by one, each once -/
def accS {α : Type} (p : α → Bool) (f : α → Int) (acc : List Int) (x : α) : List Int := if p x && !acc.contains (f x) then putL (f x) acc else acc
def accL {α : Type} (p : α → Bool) (f : α → Int) (l : List α) : List Int := l.foldl (accS p f) []
section
variable {α : Type} (p : α → Bool) (f : α → Int)
theorem accL_pre {l : List α} {k : Nat} {x : α} (h : l[k]? = some x) : accL p f (l.take (k + 1)) = if p x && !(accL p f (l.take k)).contains (f x) then putL (f x) (accL p f (l.take k)) else accL p f (l.take k) := by
  rw [List.take_add_one, h]
  simp only [accL, Option.toList_some, List.foldl_append, List.foldl_cons, List.foldl_nil]
  rfl
theorem accG : ∀ (l : List α) (acc : List Int), acc.Pairwise (· < ·) →
    (l.foldl (accS p f) acc).Pairwise (· < ·) ∧ (∀ y, y ∈ l.foldl (accS p f) acc ↔ (∃ x ∈ l, p x = true ∧ f x = y) ∨ y ∈ acc) ∧ (l.foldl (accS p f) acc).length ≤ l.length + acc.length
  | [], acc, h => ⟨h, by simp, by simp⟩
  | x :: l, acc, h => by
    simp only [List.foldl_cons]
    cases hc : p x && !acc.contains (f x)
    · have hs : accS p f acc x = acc := by simp only [accS, hc]; rfl
      rw [hs]
      have := accG l acc h
      refine ⟨this.1, fun y => ?_, by have := this.2.2; rw [List.length_cons]; omega⟩
      rw [this.2.1 y]
      simp only [Bool.and_eq_false_iff, Bool.not_eq_false', List.contains_iff_mem] at hc
      constructor
      · rintro (⟨z, hz, h3⟩ | h3)
        · exact .inl ⟨z, List.mem_cons_of_mem _ hz, h3⟩
        · exact .inr h3
      · rintro (⟨z, hz, h3, h4⟩ | h3)
        · rcases List.mem_cons.1 hz with rfl | hz
          · rcases hc with hc | hc
            · rw [hc] at h3; cases h3
            · exact .inr (h4 ▸ hc)
          · exact .inl ⟨z, hz, h3, h4⟩
        · exact .inr h3
    · have hs : accS p f acc x = putL (f x) acc := by simp only [accS, hc]; rfl
      rw [hs]
      simp only [Bool.and_eq_true, Bool.not_eq_true', List.contains_eq_mem, decide_eq_false_iff_not] at hc
      have := accG l (putL (f x) acc) (putL_asc _ _ h hc.2)
      refine ⟨this.1, fun y => ?_, by have := this.2.2; rw [putL_len] at this; rw [List.length_cons]; omega⟩
      rw [this.2.1 y, mem_putL]
      constructor
      · rintro (⟨z, hz, h3⟩ | h3 | h3)
        · exact .inl ⟨z, List.mem_cons_of_mem _ hz, h3⟩
        · exact .inl ⟨x, by simp, hc.1, h3.symm⟩
        · exact .inr h3
      · rintro (⟨z, hz, h3, h4⟩ | h3)
        · rcases List.mem_cons.1 hz with rfl | hz
          · exact .inr (.inl h4.symm)
          · exact .inl ⟨z, hz, h3, h4⟩
        · exact .inr (.inr h3)
theorem accL_asc (l : List α) : (accL p f l).Pairwise (· < ·) := (accG p f l [] List.Pairwise.nil).1
theorem accL_mem (l : List α) (y : Int) : y ∈ accL p f l ↔ ∃ x ∈ l, p x = true ∧ f x = y := by
  have := (accG p f l [] List.Pairwise.nil).2.1 y
  rw [accL, this]; simp
theorem accL_len (l : List α) : (accL p f l).length ≤ l.length := by
  have := (accG p f l [] List.Pairwise.nil).2.2
  exact this
end

end Go.Proofs.Ytaggjadgbmmjoaa
