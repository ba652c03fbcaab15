/- Boxes of the call's own memory: a block whose cells are all known. No condition. -/
import Derived.Test.YtaggjadgbmmjoaaDoorBase3
namespace Go.Proofs.YtaggjadgbmmjoaaDoor
open Go.RowKit Go.ChangeShapes Go.WideShapes Go.Deep

/-- block g holds the cells cs, of type E, and nobody has frozen it -/
def Box (w : World) (g : Nat) (E : TypeId) (cs : List Value) : Prop := w.heap[g]? = some (.cells cs.toArray E (0, 0))
section
variable {w w' : World} {g b lo hi : Nat} {E E2 : TypeId} {cs : List Value}
theorem Box.lt (h : Box w g E cs) : g < w.heap.size := (Array.getElem?_eq_some_iff.1 h).1
theorem Box.cell (h : Box w g E cs) {j : Nat} {u : Value} (hu : cs[j]? = some u) : w.cell? ⟨g, j, none⟩ = some u := by
  rw [cell_of_row w g j _ E (0, 0) h]; simpa using hu
theorem Box.frozen (h : Box w g E cs) (j : Nat) : w.frozen? ⟨g, j, none⟩ = false := frozen_of_row w g j _ E h
theorem Box.keep (h : Box w g E cs) (hk : w'.heap[g]? = w.heap[g]?) : Box w' g E cs := hk.trans h
theorem Box.below {B : Nat} (h : Box w g E cs) (hb : Below B w w') (hB : g < B) : Box w' g E cs := h.keep (hb.block g hB)
theorem Box.drew (h : Box w g E cs) : Box w.drew g E cs := h
theorem Box.drewN (h : Box w g E cs) (n : Nat) : Box (w.drewN n) g E cs := h
theorem Box.new (w : World) (cs : Array Value) (E : TypeId) (hg : g = w.heap.size) : Box (w.alloc (.cells cs E)) g E cs.toList := by
  subst hg; unfold Box; rw [heap_alloc_new]
theorem Box.other (h : Box w g E cs) (hne : g ≠ b) (off : Nat) (vs : List Value) : Box (setL w b off vs) g E cs := h.keep (setL_other vs w b off g hne)
theorem Box.setAll (h : Box w g E cs) (vs : List Value) (hl : vs.length = cs.length) : Box (setL w g 0 vs) g E vs := by
  obtain ⟨cur', e1, e2, e3, _⟩ := setL_row E vs w g 0 cs.toArray h (by simp [hl])
  have : cur' = vs.toArray := by
    apply Array.ext_getElem?
    intro j
    by_cases hj : j < vs.length
    · have h1 := e3 j _ (List.getElem?_eq_getElem hj)
      rw [Nat.zero_add] at h1
      rw [h1]; simp [hj]
    · rw [Array.getElem?_eq_none (by rw [e2]; simp; omega), Array.getElem?_eq_none (by simp; omega)]
  rw [this] at e1
  exact e1
theorem Box.set1 (h : Box w g E cs) {j : Nat} (v : Value) (hj : j < cs.length) : Box (setL w g j [v]) g E (cs.set j v) := by
  obtain ⟨cur', e1, e2, e3, e4⟩ := setL_row E [v] w g j cs.toArray h (by simp; omega)
  have : cur' = (cs.set j v).toArray := by
    apply Array.ext_getElem?
    intro i
    by_cases hi : i = j
    · subst hi
      have h1 := e3 0 v rfl
      rw [Nat.add_zero] at h1
      rw [h1]; simp [hj]
    · have h2 := e4 i (by simp; omega)
      rw [h2]
      simp only [List.getElem?_toArray, List.getElem?_set, if_neg (Ne.symm hi)]
  rw [this] at e1
  exact e1
/-- a row of another element type is kept where a box is written -/
theorem Ow.box {α : Type} {cells : α → List Value} {sz : Nat} {v : Value} {l : List α} (h : Ow cells sz E w lo hi v l) (hb : Box w g E2 cs) (hne : E ≠ E2) (off : Nat) (vs : List Value) : Ow cells sz E (setL w g off vs) lo hi v l := by
  obtain ⟨A, c, hv, hc, hm, h⟩ := h
  refine ⟨A, c, hv, hc, hm, fun hn => ?_⟩
  obtain ⟨b, o, cur, hA, h1, h2, hh, hz, hx⟩ := h hn
  refine ⟨b, o, cur, hA, h1, h2, (setL_other vs w g off b (fun e => ?_)).trans hh, hz, hx⟩
  subst e
  unfold Box at hb
  rw [hh] at hb
  injection hb with hb
  injection hb with _ h4
  exact hne h4
/-- a box is kept where a row of another element type is written -/
theorem Box.row {α : Type} {cells : α → List Value} {sz off n c : Nat} {l : List α} (h : Box w g E2 cs) (ho : Ow cells sz E w lo hi (.slice (some ⟨b, off, none⟩) n c) l) (hn : 0 < n) (hne : E ≠ E2) (o : Nat) (vs : List Value) : Box (setL w b o vs) g E2 cs := by
  refine h.other (fun e => ?_) o vs
  obtain ⟨A, c', hv, hnc, _, hx⟩ := ho
  injection hv with e1 e2 e3
  subst e1; subst e2
  obtain ⟨b', off', cur, hA, _, _, hh, _⟩ := hx (by omega)
  injection hA with hA
  injection hA with e4 e5
  subst e4; subst e
  unfold Box at h
  rw [hh] at h
  injection h with h
  injection h with _ h4
  exact hne h4
theorem Rd.away {α : Type} {cells : α → List Value} {sz : Nat} {v : Value} {l : List α} (h : Rd cells sz w lo hi v l) (hg : g < lo ∨ hi ≤ g) (off : Nat) (vs : List Value) : Rd cells sz (setL w g off vs) lo hi v l :=
  h.keep fun b o h1 h2 => World.cell?_of_block (a := ⟨b, o, none⟩) (setL_other vs w g off b (by omega))
/-- a row is kept where a row of another element type is written -/
theorem Ow.row_type {α β : Type} {cells : α → List Value} {cells2 : β → List Value} {sz sz2 off n c lo2 hi2 : Nat} {v : Value} {l : List α} {l2 : List β} (h : Ow cells2 sz2 E2 w lo2 hi2 v l2) (ho : Ow cells sz E w lo hi (.slice (some ⟨b, off, none⟩) n c) l) (hn : 0 < n) (hne : E ≠ E2) (o : Nat) (vs : List Value) : Ow cells2 sz2 E2 (setL w b o vs) lo2 hi2 v l2 := by
  have hl : n = l.length := by obtain ⟨_, _, hv, _⟩ := ho; injection hv
  exact h.turned_type ho ⟨some b, setL_grown vs w b o, fun g e => ⟨by omega, by simpa [Value.ownBlock] using e⟩⟩ hne
theorem Ow.dropn {α : Type} {cells : α → List Value} {sz n c : Nat} {A : Option Addr} {l : List α} (h : Ow cells sz E w lo hi (.slice A n c) l) {k : Nat} (hk : k ≤ n) : Ow cells sz E w lo hi (.slice (if c = k then A else Option.map (fun x => x.add (k * sz)) A) (n - k) (c - k)) (l.drop k) := by
  obtain ⟨A', c', hv, h1, h2, h3⟩ := h
  injection hv with e1 e2 e3
  subst e1; subst e2; subst e3
  have hl : (l.drop k).length = l.length - k := by rw [List.length_drop]
  refine ⟨_, c - k, by rw [hl], by omega, by omega, fun hn => ?_⟩
  obtain ⟨b, off, cur, hA, hb1, hb2, hh, hz, hx⟩ := h3 (by omega)
  refine ⟨b, off + k * sz, cur, by rw [if_neg (by omega), hA]; simp [Go.WideShapes.add_plain], hb1, hb2, hh, (by have e : (c - k) * sz + k * sz = c * sz := (by rw [← Nat.add_mul]; congr 1; omega); omega), fun i x hi j u hu => ?_⟩
  rw [List.getElem?_drop] at hi
  have := hx (k + i) x hi j u hu
  rwa [show off + (k + i) * sz + j = off + k * sz + i * sz + j by rw [Nat.add_mul]; omega] at this
/-- an own row is kept where only new blocks have come -/
theorem own_below {base sz n : Nat} {v : Value} {xs : List Value} (h : w.ownsRow base E sz v n xs) (hb : Below w.heap.size w w') : w'.ownsRow base E sz v n xs :=
  h.kept (World.grownBy.mk hb.os hb.tape hb.output hb.size (fun k hk _ => hb.block k hk) : w.grownBy w' none) (by cases hv : v.ownBlock <;> simp)
theorem own_box_ne {base sz n : Nat} {v : Value} {xs : List Value} (h : w.ownsRow base E sz v n xs) (hb : Box w g E2 cs) (hne : E ≠ E2) : v.ownBlock ≠ some g := by
  intro e
  rcases h.2 with ⟨rfl, _⟩ | ⟨g', cap, cur, rfl, _, hh, _⟩
  · simp [Value.ownBlock] at e
  · simp only [Value.ownBlock, Option.some.injEq] at e
    subst e
    unfold Box at hb
    rw [hh] at hb
    injection hb with hb
    injection hb with _ h4
    exact hne h4
/-- an own row is kept where a box of another type is written -/
theorem own_box {base sz n : Nat} {v : Value} {xs : List Value} (h : w.ownsRow base E sz v n xs) (hb : Box w g E2 cs) (hne : E ≠ E2) (off : Nat) (vs : List Value) : (setL w g off vs).ownsRow base E sz v n xs :=
  h.kept (setL_grown vs w g off) (.inr (own_box_ne h hb hne))
/-- a box is kept where an own row of another type has grown -/
theorem Box.grown_own {base sz n : Nat} {v : Value} {xs : List Value} (h : Box w g E2 cs) (hr : w.ownsRow base E sz v n xs) (hg : w.grownBy w' v.ownBlock) (hne : E ≠ E2) : Box w' g E2 cs :=
  h.keep (hg.block g h.lt (fun e => own_box_ne hr h hne e.symm))
/-- a box is kept where a row of another type has turned -/
theorem Box.turned {α : Type} {cells : α → List Value} {sz : Nat} {v : Value} {l : List α} (h : Box w g E2 cs) (ho : Ow cells sz E w lo hi v l) (ht : Turned w w' v l.length) (hne : E ≠ E2) : Box w' g E2 cs := by
  obtain ⟨row, hg, hw⟩ := ho.turned_in ht
  refine h.keep (hg.block g h.lt (fun e => ?_))
  obtain ⟨_, _, cur, hh⟩ := hw g e.symm
  unfold Box at h
  rw [hh] at h
  injection h with h
  injection h with _ h4
  exact hne h4
/-- an own row is kept where a row of another type has turned -/
theorem own_turned {α : Type} {cells : α → List Value} {sz base sz2 n2 : Nat} {v v2 : Value} {l : List α} {xs2 : List Value} (h : w.ownsRow base E2 sz2 v2 n2 xs2) (ho : Ow cells sz E w lo hi v l) (ht : Turned w w' v l.length) (hne : E ≠ E2) : w'.ownsRow base E2 sz2 v2 n2 xs2 := by
  obtain ⟨row, hg, hw⟩ := ho.turned_in ht
  refine h.kept hg ?_
  by_cases e : v2.ownBlock = row
  · cases row with
    | none => exact .inl e
    | some g =>
      obtain ⟨_, _, cur, hh⟩ := hw g rfl
      rcases h.2 with ⟨rfl, _⟩ | ⟨g', cap, cur2, rfl, _, hh2, _⟩
      · simp [Value.ownBlock] at e
      · simp only [Value.ownBlock, Option.some.injEq] at e
        subst e
        rw [hh] at hh2
        injection hh2 with hh2
        injection hh2 with _ h4
        exact absurd h4 hne
  · exact .inr e
theorem Rd.n_eq {α : Type} {cells : α → List Value} {sz n c : Nat} {A : Option Addr} {l : List α} (h : Rd cells sz w lo hi (.slice A n c) l) : n = l.length ∧ n ≤ c ∧ c ≤ maxLen := by
  obtain ⟨A', c', hv, h1, h2, _⟩ := h
  injection hv with e1 e2 e3
  subst e2; subst e3
  exact ⟨rfl, h1, h2⟩
end

end Go.Proofs.YtaggjadgbmmjoaaDoor
