/- Reading slots from a text, plain: what a word says, and what the words together say. No condition. -/
import Derived.Test.YtaggjadgbmmjoaaDoorTxR2
import Derived.Test.YtaggjadgbmmjoaaDoorTxT
import Derived.Lib.SplitLaws
namespace Go.Proofs.YtaggjadgbmmjoaaDoor
open Go.RowKit Go.ChangeShapes Go.WideShapes Go.Deep

/-- what parsing a text says: the valid slots whose text it is, if there are such -/
def Tx.Pa (s : ByteArray) (out : List Sl) (ok : Bool) : Prop := (ok = true → Sl.good out = true ∧ Tx.text out = s.data.toList) ∧ (ok = false → out = [] ∧ ∀ l : List Sl, Sl.good l = true → ¬ Tx.text l = s.data.toList)
theorem Tx.Pa.same {s : ByteArray} {a b : List Sl} {p q : Bool} (h : Tx.Pa s a p) (k : Tx.Pa s b q) : a = b ∧ p = q := by
  cases p <;> cases q
  · exact ⟨by rw [(h.2 rfl).1, (k.2 rfl).1], rfl⟩
  · exact absurd (k.1 rfl).2 ((h.2 rfl).2 b (k.1 rfl).1)
  · exact absurd (h.1 rfl).2 ((k.2 rfl).2 a (h.1 rfl).1)
  · exact ⟨Tx.inj (h.1 rfl).1 (k.1 rfl).1 ((h.1 rfl).2.trans (k.1 rfl).2.symm), rfl⟩
/-- the text of valid slots is parsed to them -/
theorem Tx.Pa.back {s : ByteArray} {a l : List Sl} {p : Bool} (h : Tx.Pa s a p) (hg : Sl.good l = true) (hs : Tx.text l = s.data.toList) : a = l ∧ p = true :=
  h.same ⟨fun _ => ⟨hg, hs⟩, fun e => by cases e⟩

/-- x is what the word says, if it is a word of a slot -/
def Tx.Wd (wd : ByteArray) (x : Sl) : Prop := ∀ t : Sl, Tx.fine t → Tx.word t = wd.data.toList → x = t
/-- it is no word of a slot -/
def Tx.Un (wd : ByteArray) : Prop := ∀ t : Sl, Tx.fine t → ¬ Tx.word t = wd.data.toList
/-- outs is what the first k words say -/
def Tx.Pre (s : ByteArray) (k : Nat) (outs : List Sl) : Prop := ∀ l : List Sl, Sl.good l = true → Tx.text l = s.data.toList → outs = l.take k
theorem Tx.Pre.start (s : ByteArray) : Tx.Pre s 0 [] := fun _ _ _ => by simp
theorem Tx.word_at {s wd : ByteArray} {W : List ByteArray} {k : Nat} (hW : W.map (·.data.toList) = Tx.split 32 s.data.toList) (hk : W[k]? = some wd) {l : List Sl} (hg : Sl.good l = true) (hs : Tx.text l = s.data.toList) : ∃ t, l[k]? = some t ∧ Tx.fine t ∧ Tx.word t = wd.data.toList := by
  rw [← hs, Tx.good_words hg] at hW
  have h1 : (W.map (·.data.toList))[k]? = some wd.data.toList := by rw [List.getElem?_map, hk]; rfl
  rw [hW, List.getElem?_map] at h1
  cases ht : l[k]? with
  | none => rw [ht] at h1; cases h1
  | some t =>
    rw [ht] at h1
    exact ⟨t, rfl, Tx.good_fine hg ht, Option.some.inj h1⟩
theorem Tx.Pre.succ {s wd : ByteArray} {W : List ByteArray} {k : Nat} {outs : List Sl} {x : Sl} (h : Tx.Pre s k outs) (hW : W.map (·.data.toList) = Tx.split 32 s.data.toList) (hk : W[k]? = some wd) (hx : Tx.Wd wd x) : Tx.Pre s (k + 1) (outs ++ [x]) := by
  intro l hg hs
  obtain ⟨t, ht, hf, hw⟩ := Tx.word_at hW hk hg hs
  rw [hx t hf hw, List.take_add_one, ht, ← h l hg hs]
  rfl
theorem Tx.pa_un {s wd : ByteArray} {W : List ByteArray} {k : Nat} (hW : W.map (·.data.toList) = Tx.split 32 s.data.toList) (hk : W[k]? = some wd) (hx : Tx.Un wd) : Tx.Pa s [] false :=
  ⟨(fun e => by cases e), fun _ => ⟨rfl, fun l hg hs => by
    obtain ⟨t, _, hf, hw⟩ := Tx.word_at hW hk hg hs
    exact hx t hf hw⟩⟩
theorem Tx.pa_long {s : ByteArray} (h : 40 < s.size) : Tx.Pa s [] false :=
  ⟨(fun e => by cases e), fun _ => ⟨rfl, fun l hg hs => by
    have h1 := Tx.text_len (fun x hx => Tx.good_fine' hg hx)
    rw [hs, Sl.good_len hg, ← Lib.size_eq] at h1
    omega⟩⟩
theorem Tx.pa_count {s : ByteArray} {W : List ByteArray} (hW : W.map (·.data.toList) = Tx.split 32 s.data.toList) (h : ¬ W.length = 4) : Tx.Pa s [] false :=
  ⟨(fun e => by cases e), fun _ => ⟨rfl, fun l hg hs => by
    rw [← hs, Tx.good_words hg] at hW
    have := congrArg List.length hW
    rw [List.length_map, List.length_map, Sl.good_len hg] at this
    exact h this⟩⟩
theorem Tx.Pre.all {s : ByteArray} {outs : List Sl} (h : Tx.Pre s 4 outs) {l : List Sl} (hg : Sl.good l = true) (hs : Tx.text l = s.data.toList) : outs = l := by
  rw [h l hg hs, List.take_of_length_le (by rw [Sl.good_len hg]; omega)]
theorem Tx.Pre.bad {s : ByteArray} {outs : List Sl} (h : Tx.Pre s 4 outs) (hb : Sl.good outs = false) : Tx.Pa s [] false :=
  ⟨(fun e => by cases e), fun _ => ⟨rfl, fun l hg hs => by rw [h.all hg hs, hg] at hb; cases hb⟩⟩
theorem Tx.Pre.other {s T : ByteArray} {outs : List Sl} (h : Tx.Pre s 4 outs) (hT : T = ⟨(Tx.text outs).toArray⟩) (hb : (T.toList == s.toList) = false) : Tx.Pa s [] false :=
  ⟨(fun e => by cases e), fun _ => ⟨rfl, fun l hg hs => by
    have h1 : T = s := by rw [hT, h.all hg hs, hs]
    rw [h1] at hb
    simp at hb⟩⟩
theorem Tx.bytes_of_list {a b : ByteArray} (h : a.toList = b.toList) : a.data.toList = b.data.toList := by
  rwa [Lib.toList_data, Lib.toList_data] at h
theorem Tx.pa_yes {s T : ByteArray} {outs : List Sl} (hg : Sl.good outs = true) (hT : T = ⟨(Tx.text outs).toArray⟩) (hb : (T.toList == s.toList) = true) : Tx.Pa s outs true := by
  refine ⟨fun _ => ⟨hg, ?_⟩, fun e => by cases e⟩
  have h1 := Tx.bytes_of_list (beq_iff_eq.1 hb)
  rw [hT] at h1
  simpa using h1

/-! ### a word in the reference -/
def Tx.stOf (c : UInt8) : Int := if c = 112 then 1 else if c = 97 then 2 else if c = 98 then 3 else 0
theorem Tx.stOf_lett {k : Int} (h0 : 1 ≤ k) (h1 : k ≤ 3) : Tx.stOf (Tx.lett k) = k := by
  have a : k = 1 ∨ k = 2 ∨ k = 3 := by omega
  rcases a with rfl | rfl | rfl <;> decide
theorem Tx.wd_spec {wd a b : ByteArray} {n1 n2 : Int} {c : UInt8} {k1 k2 : Bool} (hs : Tx.split 58 wd.data.toList = [a.data.toList, b.data.toList]) (hc : a.data.toList[0]? = some c)
    (h1 : Tx.Reads (a.extract 1 a.size) n1 k1) (h2 : Tx.Reads b n2 k2) : Tx.Wd wd ⟨Tx.stOf c, n1, n2⟩ := by
  intro t hf hw
  by_cases h0 : t.state = 0
  · rw [← hw, Tx.sides0 hf h0] at hs
    simp at hs
  · rw [← hw, Tx.sides hf h0] at hs
    simp only [List.cons.injEq, and_true] at hs
    obtain ⟨_, hd, hb⟩ := Tx.word_used hf h0
    rw [← hs.1] at hc
    simp only [List.getElem?_cons_zero, Option.some.injEq] at hc
    have e1 := (h1 t.irq (by omega) (by omega) (by rw [Lib.extract_data, ← hs.1, hd, Lib.size_eq a, ← hs.1]; rfl)).1
    have e2 := (h2 t.prio (by omega) (by omega) hs.2.symm).1
    rw [← hc, Tx.stOf_lett (by omega) (by omega), e1, e2]
theorem Tx.wd_none {wd : ByteArray} {S : List ByteArray} (hs : S.map (·.data.toList) = Tx.split 58 wd.data.toList) (h : ∀ a b, S = [a, b] → ¬ a.size = 2) : Tx.Wd wd ⟨0, 0, 0⟩ := by
  intro t hf hw
  by_cases h0 : t.state = 0
  · exact ((Tx.word_zero hf h0).2).symm
  · exfalso
    rw [← hw, Tx.sides hf h0] at hs
    cases S with
    | nil => simp at hs
    | cons a S =>
      cases S with
      | nil => simp at hs
      | cons b S =>
        cases S with
        | cons d S => simp at hs
        | nil =>
          simp only [List.map_cons, List.map_nil, List.cons.injEq, and_true] at hs
          refine h a b rfl ?_
          rw [Lib.size_eq, hs.1]; rfl

/-! ### a word in the program -/
theorem Tx.ix_lett {k : Int} (h0 : 1 ≤ k) (h1 : k ≤ 3) : Lib.indexByte [45, 112, 97, 98] (Tx.lett k) = k := by
  have a : k = 1 ∨ k = 2 ∨ k = 3 := by omega
  rcases a with rfl | rfl | rfl <;> decide
theorem Tx.un_empty {wd : ByteArray} (h : wd.data.toList = []) : Tx.Un wd := by
  intro t hf hw
  rw [h] at hw
  by_cases h0 : t.state = 0
  · rw [(Tx.word_zero hf h0).1] at hw; cases hw
  · rw [(Tx.word_used hf h0).1] at hw; cases hw
theorem Tx.wd_zero {wd : ByteArray} {c : UInt8} (hc : wd.data.toList[0]? = some c) (h0 : Lib.indexByte [45, 112, 97, 98] c = 0) : Tx.Wd wd ⟨0, 0, 0⟩ := by
  intro t hf hw
  by_cases hz : t.state = 0
  · exact ((Tx.word_zero hf hz).2).symm
  · exfalso
    obtain ⟨e, _, hb⟩ := Tx.word_used hf hz
    rw [← hw, e] at hc
    simp only [List.cons_append, List.getElem?_cons_zero, Option.some.injEq] at hc
    rw [← hc, Tx.ix_lett (by omega) (by omega)] at h0
    omega
theorem Tx.index_at (b : UInt8) : ∀ {u : List UInt8}, (∀ c ∈ u, ¬ c = b) → ∀ r : List UInt8, Lib.index (u ++ b :: r) [b] = u.length
  | [], _, r => by simp [Lib.index]
  | x :: xs, h, r => by
    have hx : ¬ x = b := h x (by simp)
    have hp : ([b].isPrefixOf (x :: (xs ++ b :: r))) = false := by
      simp only [List.isPrefixOf, Bool.and_true, beq_eq_false_iff_ne]
      exact fun e => hx e.symm
    rw [List.cons_append, Lib.index, hp, Tx.index_at b (fun c hc => h c (by simp [hc])) r]
    rw [if_neg (by simp), if_neg (by rw [beq_iff_eq]; omega), List.length_cons]
    omega
theorem Tx.index_no (b : UInt8) : ∀ {u : List UInt8}, (∀ c ∈ u, ¬ c = b) → Lib.index u [b] = -1
  | [], _ => by simp [Lib.index]
  | x :: xs, h => by
    have hx : ¬ x = b := h x (by simp)
    have hp : ([b].isPrefixOf (x :: xs)) = false := by
      simp only [List.isPrefixOf, Bool.and_true, beq_eq_false_iff_ne]
      exact fun e => hx e.symm
    rw [Lib.index, hp, Tx.index_no b (fun c hc => h c (by simp [hc]))]
    rw [if_neg (by simp), if_pos (by rfl)]
theorem Tx.cut_at {b : UInt8} {u : List UInt8} (h : ∀ c ∈ u, ¬ c = b) (r : List UInt8) : Lib.cut (u ++ b :: r) [b] = (u, r, true) := by
  rw [Lib.cut, Tx.index_at b h, if_pos (by omega), Int.toNat_natCast]
  simp
/-- what the program reads of a word -/
theorem Tx.wd_impl {wd A B : ByteArray} {n1 n2 : Int} {c : UInt8} {k1 k2 : Bool} (hc : wd.data.toList[0]? = some c) (hn : ¬ Lib.indexByte [45, 112, 97, 98] c = 0)
    (hA : A.data.toList = (Lib.cut (wd.data.toList.drop 1) [58]).1) (hB : B.data.toList = (Lib.cut (wd.data.toList.drop 1) [58]).2.1)
    (h1 : Tx.Reads A n1 k1) (h2 : Tx.Reads B n2 k2) : ∀ t : Sl, Tx.fine t → Tx.word t = wd.data.toList → (⟨Lib.indexByte [45, 112, 97, 98] c, n1, n2⟩ : Sl) = t ∧ k1 = true ∧ k2 = true := by
  intro t hf hw
  by_cases h0 : t.state = 0
  · exfalso
    rw [← hw, (Tx.word_zero hf h0).1] at hc
    simp only [List.getElem?_cons_zero, Option.some.injEq] at hc
    rw [← hc] at hn
    exact hn (by decide)
  · obtain ⟨_, hd, hb⟩ := Tx.word_used hf h0
    have hw2 : wd.data.toList = Tx.lett t.state :: (Tx.dec t.irq ++ 58 :: Tx.dec t.prio) := by rw [← hw, Tx.word, if_neg h0]
    rw [hw2] at hc
    simp only [List.getElem?_cons_zero, Option.some.injEq] at hc
    rw [hw2, List.drop_one, List.tail_cons, Tx.cut_at (fun x hx => (Tx.dec_no (by omega) (by omega) x hx).2)] at hA hB
    have e1 := h1 t.irq (by omega) (by omega) hA
    have e2 := h2 t.prio (by omega) (by omega) hB
    refine ⟨?_, e1.2, e2.2⟩
    rw [← hc, Tx.ix_lett (by omega) (by omega), e1.1, e2.1]

/-! ### the parts of a text in the library -/
theorem Tx.splitK_eq (b : UInt8) : ∀ (u : List UInt8) (n : Nat), u.length ≤ n → ∀ l, l = u → Lib.splitK [b] 0 (Lib.count l [b]) l = Tx.split b l := by
  intro u n
  induction n generalizing u with
  | zero =>
    rintro hl l rfl
    have : l = [] := List.length_eq_zero_iff.1 (by omega)
    subst this
    rw [Lib.count_miss (by simp [Lib.index])]; rfl
  | succ n ih =>
    rintro hl l rfl
    by_cases hb : ∀ c ∈ l, ¬ c = b
    · rw [Lib.count_miss (Tx.index_no b hb), Tx.split_one hb]; rfl
    · obtain ⟨p, q, hpq, hp⟩ : ∃ p q, l = p ++ b :: q ∧ ∀ c ∈ p, ¬ c = b := by
        have hm : b ∈ l := Classical.byContradiction fun hm => hb fun c hc e => hm (by rw [← e]; exact hc)
        obtain ⟨p, q, h1, h2⟩ := List.eq_append_cons_of_mem hm
        exact ⟨p, q, h1, fun c hc e => h2 (by rw [← e]; exact hc)⟩
      have hi := Tx.index_at b hp q
      rw [hpq, Lib.count_hit (by simp) hi, Tx.split_app hp, Nat.add_comm 1, Lib.splitK, hi, if_neg (by rw [beq_iff_eq]; omega), Int.toNat_natCast]
      have hd : (p ++ b :: q).drop (p.length + [b].length) = q := by simp
      rw [hd, ih q (by rw [hpq] at hl; simp at hl; omega) q rfl]
      simp
theorem Tx.split_len (b : UInt8) : ∀ (l u : List UInt8), u ∈ Tx.split b l → u.length ≤ l.length
  | [], u, h => by simp [Tx.split] at h; simp [h]
  | x :: xs, u, h => by
    rw [Tx.split] at h
    split at h
    · rcases List.mem_cons.1 h with rfl | h
      · simp
      · have := Tx.split_len b xs u h
        simp only [List.length_cons]; omega
    · have ih := Tx.split_len b xs
      split at h
      · rcases List.mem_cons.1 h with rfl | h
        · simp
        · cases h
      · rename_i y ys hq
        rw [hq] at ih
        rcases List.mem_cons.1 h with rfl | h
        · have := ih y (by simp)
          simp only [List.length_cons]; omega
        · have := ih u (by simp [h])
          simp only [List.length_cons]; omega
theorem Tx.split_size {s wd : ByteArray} {b : UInt8} {W : List ByteArray} {k : Nat} (hW : W.map (·.data.toList) = Tx.split b s.data.toList) (hk : W[k]? = some wd) : wd.size ≤ s.size := by
  rw [Lib.size_eq, Lib.size_eq]
  refine Tx.split_len b _ _ ?_
  rw [← hW]
  exact List.mem_map.2 ⟨wd, List.mem_of_getElem? hk, rfl⟩
theorem Tx.splitB_eq (s : ByteArray) (b : UInt8) : (Lib.splitB ⟨#[b]⟩ 0 (Lib.countB s ⟨#[b]⟩) s).map (·.data.toList) = Tx.split b s.data.toList := by
  rw [Lib.splitB_data]
  exact Tx.splitK_eq b s.data.toList _ (Nat.le_refl _) _ rfl

end Go.Proofs.YtaggjadgbmmjoaaDoor
