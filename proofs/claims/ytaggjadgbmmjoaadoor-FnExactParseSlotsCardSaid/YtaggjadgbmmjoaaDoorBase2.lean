/- More plain lemmas about memory. No condition. -/
import Derived.Test.YtaggjadgbmmjoaaDoorBase
namespace Go.Proofs.YtaggjadgbmmjoaaDoor
open Go.RowKit Go.ChangeShapes Go.WideShapes Go.Deep

section
variable {α : Type} {cells : α → List Value} {sz : Nat} {E : TypeId} {w : World} {lo hi : Nat} {v : Value} {l : List α}
theorem Rd.drew (h : Rd cells sz w lo hi v l) : Rd cells sz w.drew lo hi v l := h.keep fun _ _ _ _ => rfl
theorem Rd.drewN (h : Rd cells sz w lo hi v l) (n : Nat) : Rd cells sz (w.drewN n) lo hi v l := h.keep fun _ _ _ _ => rfl
theorem Ow.drew (h : Ow cells sz E w lo hi v l) : Ow cells sz E w.drew lo hi v l := h.keep fun _ _ _ _ => rfl
theorem Ow.drewN (h : Ow cells sz E w lo hi v l) (n : Nat) : Ow cells sz E (w.drewN n) lo hi v l := h.keep fun _ _ _ _ => rfl
end
theorem size_drew_le {w : World} {n : Nat} (h : n ≤ w.heap.size) : n ≤ w.drew.heap.size := h
theorem setL_size_le {w : World} {g off : Nat} {vs : List Value} {n : Nat} (h : n ≤ w.heap.size) : n ≤ (setL w g off vs).heap.size := by rw [setL_size]; exact h

theorem cell_new (w : World) (cs : Array Value) (E : TypeId) {g : Nat} (hg : g = w.heap.size) {j : Nat} {u : Value} (h : cs[j]? = some u) : (w.alloc (.cells cs E)).cell? ⟨g, j, none⟩ = some u := by
  subst hg
  rw [cell_of_row _ _ j cs E (0, 0) (heap_alloc_new w _)]
  exact h
theorem own_empty (w : World) {base : Nat} (E : TypeId) (sz : Nat) (hb : base ≤ w.heap.size) : (w.alloc (.cells #[] E)).ownsRow base E sz (.slice (some ⟨w.heap.size, 0, none⟩) 0 0) 0 [] :=
  World.ownsRow_lit w #[] 0 hb (by decide) (by simp)

/-- a list whose first k elements are changed by f -/
def mapPre {α : Type} (f : α → α) (l : List α) (k : Nat) : List α := (l.take k).map f ++ l.drop k
theorem mapPre_zero {α : Type} (f : α → α) (l : List α) : mapPre f l 0 = l := by simp [mapPre]
theorem mapPre_len {α : Type} (f : α → α) (l : List α) (k : Nat) : (mapPre f l k).length = l.length := by
  simp [mapPre]; omega
theorem mapPre_all {α : Type} (f : α → α) (l : List α) {k : Nat} (h : l.length ≤ k) : mapPre f l k = l.map f := by
  simp [mapPre, List.take_of_length_le h, List.drop_of_length_le h]
theorem mapPre_get {α : Type} (f : α → α) (l : List α) (k : Nat) : (mapPre f l k)[k]? = l[k]? := by
  unfold mapPre
  by_cases h : k ≤ l.length
  · have hl : ((l.take k).map f).length = k := by simp; omega
    rw [List.getElem?_append_right (by omega), hl, List.getElem?_drop]
    congr 1; omega
  · rw [List.getElem?_eq_none (by simp; omega), List.getElem?_eq_none (by omega)]
theorem mapPre_set {α : Type} (f : α → α) {l : List α} {k : Nat} {t : α} (h : l[k]? = some t) : (mapPre f l k).set k (f t) = mapPre f l (k + 1) := by
  obtain ⟨hk, rfl⟩ := List.getElem?_eq_some_iff.1 h
  have hl : ((l.take k).map f).length = k := by simp; omega
  unfold mapPre
  rw [List.set_append_right _ _ (by omega), hl, Nat.sub_self, List.drop_eq_getElem_cons hk, List.set_cons_zero, List.take_add_one, h, List.map_append]
  simp
theorem Ow.frozen {α : Type} {cells : α → List Value} {sz : Nat} {E : TypeId} {w : World} {lo hi b off n c : Nat} {l : List α} (h : Ow cells sz E w lo hi (.slice (some ⟨b, off, none⟩) n c) l) (hn : 0 < n) : ∀ j, w.frozen? ⟨b, j, none⟩ = false := by
  obtain ⟨A, c', hv, hnc, _, h⟩ := h
  injection hv with e1 e2 e3
  subst e1; subst e2
  obtain ⟨b', off', cur, hA, _, _, hh, _⟩ := h (by omega)
  injection hA with hA
  injection hA with e1 e2
  subst e1; subst e2
  exact fun j => frozen_of_row w b j cur E hh

section
variable {α : Type} {cells : α → List Value} {sz : Nat} {E E2 : TypeId} {w w' : World} {lo hi base sz2 n2 : Nat} {v v2 : Value} {l : List α} {xs : List Value}
/-- a row of another element type has grown: this one reads as it did -/
theorem Ow.grown_own (h : Ow cells sz E w lo hi v l) (hr : w.ownsRow base E2 sz2 v2 n2 xs) (hg : w.grownBy w' v2.ownBlock) (hE : E ≠ E2) : Ow cells sz E w' lo hi v l := by
  obtain ⟨A, c, hv, hc, hm, h⟩ := h
  refine ⟨A, c, hv, hc, hm, fun hn => ?_⟩
  obtain ⟨b, off, cur, hA, hb1, hb2, hh, hz, hx⟩ := h hn
  refine ⟨b, off, cur, hA, hb1, hb2, (hg.block b (Array.getElem?_eq_some_iff.1 hh).1 (fun e => ?_)).trans hh, hz, hx⟩
  rcases hr.2 with ⟨rfl, _⟩ | ⟨g, cap, cur2, rfl, _, hh2, _⟩
  · simp [Value.ownBlock] at e
  · simp [Value.ownBlock] at e
    subst e
    rw [hh] at hh2
    injection hh2 with hh2
    injection hh2 with _ h4
    exact hE h4
/-- an element of a row of another element type has turned: this row is owned as it was -/
theorem own_keep {b off n c : Nat} (hr : w.ownsRow base E2 sz2 v2 n2 xs) (h : Ow cells sz E w lo hi (.slice (some ⟨b, off, none⟩) n c) l) (hn : 0 < n) (hg : w.grownBy w' (some b)) (hE : E ≠ E2) : w'.ownsRow base E2 sz2 v2 n2 xs := by
  refine hr.kept hg (.inr fun e => ?_)
  obtain ⟨A, c', hv, hnc, _, h⟩ := h
  injection hv with e1 e2 e3
  subst e1; subst e2
  obtain ⟨b', off', cur, hA, _, _, hh, _⟩ := h (by omega)
  injection hA with hA
  injection hA with e1 e2
  subst e1
  rcases hr.2 with ⟨rfl, _⟩ | ⟨g, cap, cur2, rfl, _, hh2, _⟩
  · simp [Value.ownBlock] at e
  · simp [Value.ownBlock] at e
    subst e
    rw [hh] at hh2
    injection hh2 with hh2
    injection hh2 with _ h4
    exact hE h4
end

end Go.Proofs.YtaggjadgbmmjoaaDoor
