/- The texts of slots, plain: what the text of slots is, and that slots are known by their text. No condition. -/
import Derived.Test.YtaggjadgbmmjoaaDoorSl
import Derived.Lib.ItoaNum
import Derived.Lib.Join
namespace Go.Proofs.YtaggjadgbmmjoaaDoor
open Go.RowKit Go.ChangeShapes Go.WideShapes Go.Deep

def Tx.dec (n : Int) : List UInt8 := if n < 10 then [UInt8.ofNat (48 + n.toNat)] else [UInt8.ofNat (48 + n.toNat / 10), UInt8.ofNat (48 + n.toNat % 10)]
def Tx.lett (k : Int) : UInt8 := if k = 1 then 112 else if k = 2 then 97 else if k = 3 then 98 else 45
def Tx.word (s : Sl) : List UInt8 := if s.state = 0 then [45] else Tx.lett s.state :: (Tx.dec s.irq ++ 58 :: Tx.dec s.prio)
def Tx.tail (l : List Sl) : List UInt8 := l.flatMap (fun s => 32 :: Tx.word s)
def Tx.text (l : List Sl) : List UInt8 := (Tx.tail l).drop 1
def Tx.fine (s : Sl) : Prop := (s.state = 0 ∧ s.irq = 0 ∧ s.prio = 0) ∨ (1 ≤ s.state ∧ s.state ≤ 3 ∧ 0 ≤ s.irq ∧ s.irq ≤ 7 ∧ 0 ≤ s.prio ∧ s.prio ≤ 15)
/-- the parts of a text between bytes b -/
def Tx.split (b : UInt8) : List UInt8 → List (List UInt8)
  | [] => [[]]
  | x :: xs => if x = b then [] :: Tx.split b xs else match Tx.split b xs with
    | [] => [[x]]
    | y :: ys => (x :: y) :: ys

theorem Tx.dec_eq {n : Int} (h0 : 0 ≤ n) (h1 : n < 100) : Lib.decDigits n.toNat = Tx.dec n := by
  unfold Tx.dec
  split
  · rw [Lib.decDigits, dif_pos (by omega)]
  · rw [Lib.decDigits, dif_neg (by omega), Lib.decDigits, dif_pos (by omega)]
    rfl
theorem Tx.dec_bytes : ∀ n ∈ List.range 16, ∀ c ∈ Tx.dec (n : Int), ¬ c = 32 ∧ ¬ c = 58 := by decide
theorem Tx.dec_no {n : Int} (h0 : 0 ≤ n) (h1 : n ≤ 15) : ∀ c ∈ Tx.dec n, ¬ c = 32 ∧ ¬ c = 58 := by
  have := Tx.dec_bytes n.toNat (by rw [List.mem_range]; omega)
  rwa [show ((n.toNat : Nat) : Int) = n by omega] at this
theorem Tx.dec_inj_ : ∀ n ∈ List.range 16, ∀ m ∈ List.range 16, Tx.dec (n : Int) = Tx.dec (m : Int) → n = m := by decide
theorem Tx.dec_inj {n m : Int} (h0 : 0 ≤ n) (h1 : n ≤ 15) (k0 : 0 ≤ m) (k1 : m ≤ 15) (h : Tx.dec n = Tx.dec m) : n = m := by
  have := Tx.dec_inj_ n.toNat (by rw [List.mem_range]; omega) m.toNat (by rw [List.mem_range]; omega)
  rw [show ((n.toNat : Nat) : Int) = n by omega, show ((m.toNat : Nat) : Int) = m by omega] at this
  have := this h
  omega
theorem Tx.dec_len {n : Int} : (Tx.dec n).length = 1 ∨ (Tx.dec n).length = 2 := by unfold Tx.dec; split <;> simp
theorem Tx.dec_one {n : Int} (h1 : n < 10) : Tx.dec n = [UInt8.ofNat (48 + n.toNat)] := by rw [Tx.dec, if_pos h1]

theorem Tx.good_fine {l : List Sl} (h : Sl.good l = true) {k : Nat} {s : Sl} (hs : l[k]? = some s) : Tx.fine s := by
  have := Sl.good_one h hs
  unfold Sl.okAt at this
  split at this
  · simp only [Bool.and_eq_true, beq_iff_eq] at this
    exact .inl ⟨by assumption, this.1, this.2⟩
  · simp only [Bool.and_eq_true, inB_iff] at this
    exact .inr (by omega)
theorem Tx.good_fine' {l : List Sl} (h : Sl.good l = true) {s : Sl} (hs : s ∈ l) : Tx.fine s := by
  obtain ⟨k, hk⟩ := List.mem_iff_getElem?.1 hs
  exact Tx.good_fine h hk
theorem Tx.word_zero {s : Sl} (h : Tx.fine s) (h0 : s.state = 0) : Tx.word s = [45] ∧ s = ⟨0, 0, 0⟩ := by
  refine ⟨by rw [Tx.word, if_pos h0], ?_⟩
  rcases h with ⟨_, h2, h3⟩ | h
  · cases s; simp_all
  · omega
theorem Tx.word_used {s : Sl} (h : Tx.fine s) (h0 : ¬ s.state = 0) : Tx.word s = [Tx.lett s.state, UInt8.ofNat (48 + s.irq.toNat)] ++ 58 :: Tx.dec s.prio ∧ Tx.dec s.irq = [UInt8.ofNat (48 + s.irq.toNat)] ∧ (1 ≤ s.state ∧ s.state ≤ 3 ∧ 0 ≤ s.irq ∧ s.irq ≤ 7 ∧ 0 ≤ s.prio ∧ s.prio ≤ 15) := by
  rcases h with ⟨h1, _⟩ | h
  · exact absurd h1 h0
  · have hd := Tx.dec_one (n := s.irq) (by omega)
    exact ⟨by rw [Tx.word, if_neg h0, hd]; rfl, hd, h⟩
theorem Tx.lett_no (k : Int) : ¬ Tx.lett k = 32 ∧ ¬ Tx.lett k = 58 := by
  have : Tx.lett k = 112 ∨ Tx.lett k = 97 ∨ Tx.lett k = 98 ∨ Tx.lett k = 45 := by
    unfold Tx.lett
    by_cases h1 : k = 1
    · simp [h1]
    · by_cases h2 : k = 2
      · simp [h2]
      · by_cases h3 : k = 3
        · simp [h3]
        · simp [h1, h2, h3]
  rcases this with h | h | h | h <;> rw [h] <;> decide
theorem Tx.lett_inj {k m : Int} (h0 : 1 ≤ k) (h1 : k ≤ 3) (m0 : 1 ≤ m) (m1 : m ≤ 3) (h : Tx.lett k = Tx.lett m) : k = m := by
  have a : k = 1 ∨ k = 2 ∨ k = 3 := by omega
  have b : m = 1 ∨ m = 2 ∨ m = 3 := by omega
  rcases a with rfl | rfl | rfl <;> rcases b with rfl | rfl | rfl <;> first | rfl | (exact absurd h (by decide))
theorem Tx.dig_no {n : Int} (h0 : 0 ≤ n) (h1 : n ≤ 7) : ¬ UInt8.ofNat (48 + n.toNat) = 32 ∧ ¬ UInt8.ofNat (48 + n.toNat) = 58 := by
  have := Tx.dec_no (n := n) h0 (by omega) (UInt8.ofNat (48 + n.toNat)) (by rw [Tx.dec_one (by omega)]; simp)
  exact this
theorem Tx.word_no {s : Sl} (h : Tx.fine s) : ∀ c ∈ Tx.word s, ¬ c = 32 := by
  intro c hc
  by_cases h0 : s.state = 0
  · rw [(Tx.word_zero h h0).1] at hc
    simp at hc
    subst hc; decide
  · obtain ⟨e, _, hb⟩ := Tx.word_used h h0
    rw [e] at hc
    simp only [List.cons_append, List.nil_append, List.mem_cons] at hc
    rcases hc with rfl | rfl | rfl | hc
    · exact (Tx.lett_no _).1
    · exact (Tx.dig_no (by omega) (by omega)).1
    · decide
    · exact (Tx.dec_no (by omega) (by omega) c hc).1

theorem Tx.split_ne (b : UInt8) : ∀ l : List UInt8, Tx.split b l ≠ []
  | [] => by simp [Tx.split]
  | x :: xs => by
    unfold Tx.split
    split
    · simp
    · split <;> simp
theorem Tx.split_one {b : UInt8} : ∀ {u : List UInt8}, (∀ c ∈ u, ¬ c = b) → Tx.split b u = [u]
  | [], _ => rfl
  | x :: xs, h => by
    rw [Tx.split, if_neg (h x (by simp)), Tx.split_one (fun c hc => h c (by simp [hc]))]
theorem Tx.split_app {b : UInt8} : ∀ {u : List UInt8}, (∀ c ∈ u, ¬ c = b) → ∀ r : List UInt8, Tx.split b (u ++ b :: r) = u :: Tx.split b r
  | [], _, r => by simp [Tx.split]
  | x :: xs, h, r => by
    rw [List.cons_append, Tx.split, if_neg (h x (by simp)), Tx.split_app (fun c hc => h c (by simp [hc]))]
theorem Tx.split_tail {b : UInt8} : ∀ (ws : List (List UInt8)) (u : List UInt8), (∀ c ∈ u, ¬ c = b) → (∀ w ∈ ws, ∀ c ∈ w, ¬ c = b) → Tx.split b (u ++ ws.flatMap (fun w => b :: w)) = u :: ws
  | [], u, h, _ => by simp [Tx.split_one h]
  | w :: ws, u, h, h2 => by
    rw [List.flatMap_cons, List.cons_append, Tx.split_app h, Tx.split_tail ws w (h2 w (by simp)) (fun x hx => h2 x (by simp [hx]))]
theorem Tx.text_cons (s : Sl) (l : List Sl) : Tx.text (s :: l) = Tx.word s ++ Tx.tail l := by simp [Tx.text, Tx.tail]
theorem Tx.tail_map (l : List Sl) : Tx.tail l = (l.map Tx.word).flatMap (fun w => 32 :: w) := by simp [Tx.tail, List.flatMap_map]
/-- the words of a text -/
theorem Tx.words {l : List Sl} (h : ∀ s ∈ l, Tx.fine s) (h0 : l ≠ []) : Tx.split 32 (Tx.text l) = l.map Tx.word := by
  cases l with
  | nil => exact absurd rfl h0
  | cons s l =>
    rw [Tx.text_cons, Tx.tail_map, Tx.split_tail _ _ (Tx.word_no (h s (by simp))) (fun w hw c hc => by
      obtain ⟨t, ht, rfl⟩ := List.mem_map.1 hw
      exact Tx.word_no (h t (by simp [ht])) c hc), List.map_cons]
theorem Tx.good_words {l : List Sl} (h : Sl.good l = true) : Tx.split 32 (Tx.text l) = l.map Tx.word :=
  Tx.words (fun _ hs => Tx.good_fine' h hs) (fun e => by have := Sl.good_len h; rw [e] at this; simp at this)
/-- the two sides of a word -/
theorem Tx.sides {s : Sl} (h : Tx.fine s) (h0 : ¬ s.state = 0) : Tx.split 58 (Tx.word s) = [[Tx.lett s.state, UInt8.ofNat (48 + s.irq.toNat)], Tx.dec s.prio] := by
  obtain ⟨e, _, hb⟩ := Tx.word_used h h0
  rw [e, Tx.split_app (fun c hc => by
    simp only [List.mem_cons, List.not_mem_nil, or_false] at hc
    rcases hc with rfl | rfl
    · exact (Tx.lett_no _).2
    · exact (Tx.dig_no (by omega) (by omega)).2), Tx.split_one (fun c hc => (Tx.dec_no (by omega) (by omega) c hc).2)]
theorem Tx.sides0 {s : Sl} (h : Tx.fine s) (h0 : s.state = 0) : Tx.split 58 (Tx.word s) = [[45]] := by
  rw [(Tx.word_zero h h0).1]; decide
theorem Tx.word_inj {s t : Sl} (h : Tx.fine s) (k : Tx.fine t) (e : Tx.word s = Tx.word t) : s = t := by
  by_cases h0 : s.state = 0
  · by_cases k0 : t.state = 0
    · rw [(Tx.word_zero h h0).2, (Tx.word_zero k k0).2]
    · have a := Tx.sides0 h h0
      rw [e, Tx.sides k k0] at a
      simp at a
  · by_cases k0 : t.state = 0
    · have a := Tx.sides0 k k0
      rw [← e, Tx.sides h h0] at a
      simp at a
    · have a := Tx.sides h h0
      rw [e, Tx.sides k k0] at a
      simp only [List.cons.injEq, and_true] at a
      obtain ⟨⟨a1, a2⟩, a3⟩ := a
      obtain ⟨_, d1, b1⟩ := Tx.word_used h h0
      obtain ⟨_, d2, b2⟩ := Tx.word_used k k0
      have c1 := Tx.lett_inj (by omega) (by omega) (by omega) (by omega) a1
      have c2 := Tx.dec_inj (n := t.irq) (m := s.irq) (by omega) (by omega) (by omega) (by omega) (by rw [d1, d2, a2])
      have c3 := Tx.dec_inj (by omega) (by omega) (by omega) (by omega) a3
      cases s; cases t; simp_all
theorem map_inj_on {α β : Type} {f : α → β} {p : α → Prop} (hf : ∀ a b, p a → p b → f a = f b → a = b) : ∀ {l m : List α}, (∀ a ∈ l, p a) → (∀ a ∈ m, p a) → l.map f = m.map f → l = m
  | [], [], _, _, _ => rfl
  | [], _ :: _, _, _, e => by simp at e
  | _ :: _, [], _, _, e => by simp at e
  | a :: l, b :: m, h, k, e => by
    simp only [List.map_cons, List.cons.injEq] at e
    rw [hf a b (h a (by simp)) (k b (by simp)) e.1, map_inj_on hf (fun x hx => h x (by simp [hx])) (fun x hx => k x (by simp [hx])) e.2]
/-- slots are known by their text -/
theorem Tx.inj {l m : List Sl} (h : Sl.good l = true) (k : Sl.good m = true) (e : Tx.text l = Tx.text m) : l = m := by
  have a := Tx.good_words h
  rw [e, Tx.good_words k] at a
  exact (map_inj_on (p := Tx.fine) (fun _ _ => Tx.word_inj) (fun _ hx => Tx.good_fine' k hx) (fun _ hx => Tx.good_fine' h hx) a).symm
/-- a text as the loops build it -/
theorem Tx.tail_succ {l : List Sl} {k : Nat} {s : Sl} (h : l[k]? = some s) : Tx.tail (l.take (k + 1)) = Tx.tail (l.take k) ++ 32 :: Tx.word s := by
  simp [Tx.tail, List.take_add_one, h]
theorem Tx.text_first {l : List Sl} {s : Sl} (h : l[0]? = some s) : Tx.text (l.take 1) = Tx.word s := by
  rw [Tx.text, Tx.tail_succ h]; simp [Tx.tail]
theorem Tx.text_succ {l : List Sl} {k : Nat} {s : Sl} (hk : 0 < k) (h : l[k]? = some s) : Tx.text (l.take (k + 1)) = Tx.text (l.take k) ++ 32 :: Tx.word s := by
  have hne : 0 < (Tx.tail (l.take k)).length := by
    have hl := (List.getElem?_eq_some_iff.1 h).1
    cases l with
    | nil => simp at hl
    | cons a l =>
      obtain ⟨k, rfl⟩ : ∃ j, k = j + 1 := ⟨k - 1, by omega⟩
      rw [List.take_succ_cons, Tx.tail, List.flatMap_cons]; simp
  rw [Tx.text, Tx.tail_succ h, List.drop_append_of_le_length hne, Tx.text]
theorem Tx.join_words (l : List Sl) : Lib.join (l.map Tx.word) [32] = Tx.text l := by
  cases l with
  | nil => rfl
  | cons s l =>
    rw [List.map_cons, Lib.join_cons, Tx.text_cons, Lib.joinTail, Tx.tail, List.map_map, List.flatMap_def]
    rfl

end Go.Proofs.YtaggjadgbmmjoaaDoor
