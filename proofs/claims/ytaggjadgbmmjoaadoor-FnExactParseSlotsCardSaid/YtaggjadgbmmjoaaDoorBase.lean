/- Plain lemmas about memory, used by all walks of this seat: a slice that reads as a list, a slice in memory of the call's own, and the frame of a law. No condition. -/
import Derived.Test.YtaggjadgbmmjoaaDoorRows
import Derived.WalkKit
import Derived.ProofKit
import Derived.WalkLawsBesides
import Derived.WalkSpells
import Derived.OpenShut
import Derived.Deep.Slices
import Derived.Deep.Fields
import Derived.Deep.AppendLies
import Derived.Maps.AppendAt
import Derived.Deep.Draws
import Derived.Deep.OwnRows
import Derived.Deep.QuietTactic
import Derived.Deep.RegionHeld3
import Derived.Deep.DeepFit
import Derived.Deep.LoopGhost
import Derived.StillTailTactics
import Derived.BigQuiet
import Derived.BigGuardPart
import Derived.Lib.Hide
import Derived.Lib.SmallJoins
import Derived.Outline
import Derived.Handy
namespace Go.Proofs.YtaggjadgbmmjoaaDoor
open Go.RowKit Go.ChangeShapes Go.WideShapes Go.Deep

theorem bcell {W w1 : World} {B : Nat} (hb : Below B W w1) : (∀ b o, b < B → w1.cell? ⟨b, o, none⟩ = W.cell? ⟨b, o, none⟩) ∧ (∀ b o, b < B → w1.frozen? ⟨b, o, none⟩ = W.frozen? ⟨b, o, none⟩) :=
  ⟨fun b o h => hb.cell (p := ⟨b, o, none⟩) h, fun b o h => hb.frozen (p := ⟨b, o, none⟩) h⟩
theorem below_drewN {B : Nat} {a w : World} (h : Below B a w) (n : Nat) : Below B a (w.drewN n) := ⟨h.os, h.tape, h.output, h.size, h.block⟩
theorem ret_bool {a b : Bool} (h : a = b) : Ending.returned (.bool a) = .returned (.bool b) := by rw [h]
theorem ret_int {a b : Int} (h : a = b) : Ending.returned (.int .i64 a) = .returned (.int .i64 b) := by rw [h]

/-- The slice value v reads as the list l: element k's cells are 'cells l[k]', sz of them; its block lies in [lo, hi). -/
def Rd {α : Type} (cells : α → List Value) (sz : Nat) (w : World) (lo hi : Nat) (v : Value) (l : List α) : Prop :=
  ∃ A c, v = .slice A l.length c ∧ l.length ≤ c ∧ c ≤ maxLen ∧ (0 < l.length → ∃ b off, A = some ⟨b, off, none⟩ ∧ lo ≤ b ∧ b < hi ∧
    ∀ k x, l[k]? = some x → ∀ j u, (cells x)[j]? = some u → w.cell? ⟨b, off + k * sz + j, none⟩ = some u)

/-- The same, and the cells lie in a block of element type E that nothing has frozen: they may be written. -/
def Ow {α : Type} (cells : α → List Value) (sz : Nat) (E : TypeId) (w : World) (lo hi : Nat) (v : Value) (l : List α) : Prop :=
  ∃ A c, v = .slice A l.length c ∧ l.length ≤ c ∧ c ≤ maxLen ∧ (0 < c → ∃ b off cur, A = some ⟨b, off, none⟩ ∧ lo ≤ b ∧ b < hi ∧ w.heap[b]? = some (.cells cur E (0, 0)) ∧ off + c * sz ≤ cur.size ∧
    ∀ k x, l[k]? = some x → ∀ j u, (cells x)[j]? = some u → cur[off + k * sz + j]? = some u)

/-- At most the block of v has turned, and that only if v has elements; new blocks may have come. -/
def Turned (w w' : World) (v : Value) (n : Nat) : Prop := ∃ row, w.grownBy w' row ∧ ∀ g, row = some g → 0 < n ∧ v.ownBlock = some g

section
variable {α : Type} {cells : α → List Value} {sz : Nat} {E : TypeId} {w w' : World} {lo hi lo' hi' : Nat} {v : Value} {l : List α}

theorem Rd.mono (h : Rd cells sz w lo hi v l) (h1 : lo' ≤ lo) (h2 : hi ≤ hi') : Rd cells sz w lo' hi' v l := by
  obtain ⟨A, c, hv, hc, hm, h⟩ := h
  refine ⟨A, c, hv, hc, hm, fun hn => ?_⟩
  obtain ⟨b, off, hA, hb1, hb2, h⟩ := h hn
  exact ⟨b, off, hA, by omega, by omega, h⟩
theorem Rd.keep (h : Rd cells sz w lo hi v l) (hk : ∀ b o, lo ≤ b → b < hi → w'.cell? ⟨b, o, none⟩ = w.cell? ⟨b, o, none⟩) : Rd cells sz w' lo hi v l := by
  obtain ⟨A, c, hv, hc, hm, h⟩ := h
  refine ⟨A, c, hv, hc, hm, fun hn => ?_⟩
  obtain ⟨b, off, hA, hb1, hb2, h⟩ := h hn
  exact ⟨b, off, hA, hb1, hb2, fun k x hx j u hu => (hk _ _ hb1 hb2).trans (h k x hx j u hu)⟩
theorem Rd.below {B : Nat} (h : Rd cells sz w lo hi v l) (hb : Below B w w') (hB : hi ≤ B) : Rd cells sz w' lo hi v l :=
  h.keep fun b o _ h2 => hb.cell (p := ⟨b, o, none⟩) (Nat.lt_of_lt_of_le h2 hB)
/-- only block g may have turned -/
theorem Rd.grown {row : Option Nat} (h : Rd cells sz w lo hi v l) (hg : w.grownBy w' row) (hB : hi ≤ w.heap.size) (hr : ∀ g, row = some g → g < lo ∨ hi ≤ g) : Rd cells sz w' lo hi v l :=
  h.keep fun b o h1 h2 => World.cell?_of_block (a := ⟨b, o, none⟩) (hg.block b (by omega) (fun e => by have := hr _ e.symm; omega))
theorem Rd.len (h : Rd cells sz w lo hi v l) : l.length ≤ maxLen := by
  obtain ⟨A, c, _, hc, hm, _⟩ := h; omega
theorem Rd.nil_ : Rd cells sz w lo hi (.slice none 0 0) [] := ⟨none, 0, rfl, Nat.le_refl _, Nat.zero_le _, fun h => absurd h (by simp)⟩

theorem Rd.empty {A : Option Addr} {c : Nat} (hc : c ≤ maxLen) : Rd cells sz w lo hi (.slice A 0 c) [] := ⟨A, c, rfl, Nat.zero_le _, hc, fun h => absurd h (by simp)⟩
theorem Ow.rd (h : Ow cells sz E w lo hi v l) : Rd cells sz w lo hi v l := by
  obtain ⟨A, c, hv, hc, hm, h⟩ := h
  refine ⟨A, c, hv, hc, hm, fun hn => ?_⟩
  obtain ⟨b, off, cur, hA, hb1, hb2, hh, _, h⟩ := h (by omega)
  refine ⟨b, off, hA, hb1, hb2, fun k x hx j u hu => ?_⟩
  rw [cell_of_row w b _ cur E (0, 0) hh]
  exact h k x hx j u hu
theorem Rd.form (h : Rd cells sz w lo hi v l) : ∃ A n c, v = .slice A n c ∧ Hid (n = l.length) ∧ n ≤ c ∧ c ≤ 9223372036854775807 := by
  obtain ⟨A, c, rfl, hc, hm, _⟩ := h
  exact ⟨A, _, c, rfl, rfl, hc, by unfold maxLen at hm; omega⟩
theorem Rd.get {A : Option Addr} {n c k : Nat} (h : Rd cells sz w lo hi (.slice A n c) l) (hk : k < n) {B : Nat} {wr : World} (hb : Below B w wr) (hB : hi ≤ B) :
    ∃ b off x, A = some ⟨b, off, none⟩ ∧ Hid (l[k]? = some x) ∧ lo ≤ b ∧ b < hi ∧ ∀ j u, (cells x)[j]? = some u → wr.cell? ⟨b, off + k * sz + j, none⟩ = some u := by
  obtain ⟨A', c', hv, hc, hm, h⟩ := h
  injection hv with e1 e2 e3
  subst e1; subst e2
  obtain ⟨b, off, hA, h1, h2, h3⟩ := h (by omega)
  have hx : l[k]? = some (l[k]'hk) := List.getElem?_eq_getElem _
  exact ⟨b, off, _, hA, hx, h1, h2, fun j u hu => (hb.cell (p := ⟨b, _, none⟩) (Nat.lt_of_lt_of_le h2 hB)).trans (h3 k _ hx j u hu)⟩
theorem Ow.form (h : Ow cells sz E w lo hi v l) : ∃ A n c, v = .slice A n c ∧ Hid (n = l.length) ∧ n ≤ c ∧ c ≤ 9223372036854775807 := h.rd.form
theorem Ow.mono (h : Ow cells sz E w lo hi v l) (h1 : lo' ≤ lo) (h2 : hi ≤ hi') : Ow cells sz E w lo' hi' v l := by
  obtain ⟨A, c, hv, hc, hm, h⟩ := h
  refine ⟨A, c, hv, hc, hm, fun hn => ?_⟩
  obtain ⟨b, off, cur, hA, hb1, hb2, hh, hz, h⟩ := h hn
  exact ⟨b, off, cur, hA, by omega, by omega, hh, hz, h⟩
theorem Ow.keep (h : Ow cells sz E w lo hi v l) (hk : ∀ b, lo ≤ b → b < hi → b < w.heap.size → w'.heap[b]? = w.heap[b]?) : Ow cells sz E w' lo hi v l := by
  obtain ⟨A, c, hv, hc, hm, h⟩ := h
  refine ⟨A, c, hv, hc, hm, fun hn => ?_⟩
  obtain ⟨b, off, cur, hA, hb1, hb2, hh, hz, h⟩ := h hn
  exact ⟨b, off, cur, hA, hb1, hb2, (hk b hb1 hb2 (Array.getElem?_eq_some_iff.1 hh).1).trans hh, hz, h⟩
theorem Ow.below {B : Nat} (h : Ow cells sz E w lo hi v l) (hb : Below B w w') (hB : hi ≤ B) : Ow cells sz E w' lo hi v l := h.keep fun b _ h2 _ => hb.block b (by omega)
theorem Ow.nil_ : Ow cells sz E w lo hi (.slice none 0 0) [] := ⟨none, 0, rfl, Nat.le_refl _, Nat.zero_le _, fun h => absurd h (by simp)⟩

/-- the block that turned is v's own -/
theorem Ow.turned_in (h : Ow cells sz E w lo hi v l) (ht : Turned w w' v l.length) : ∃ row, w.grownBy w' row ∧ ∀ g, row = some g → lo ≤ g ∧ g < hi ∧ ∃ cur, w.heap[g]? = some (.cells cur E (0, 0)) := by
  obtain ⟨row, hg, hr⟩ := ht
  refine ⟨row, hg, fun g e => ?_⟩
  obtain ⟨hn, ho⟩ := hr g e
  obtain ⟨A, c, rfl, _, _, h⟩ := h
  obtain ⟨b, off, cur, rfl, hb1, hb2, hh, _⟩ := h (by omega)
  simp [Value.ownBlock] at ho
  subst ho
  exact ⟨hb1, hb2, cur, hh⟩
section
variable {β : Type} {cells2 : β → List Value} {sz2 : Nat} {E2 : TypeId} {lo2 hi2 : Nat} {v2 : Value} {l2 : List β}
theorem Rd.turned (hr : Rd cells2 sz2 w lo2 hi2 v2 l2) (h : Ow cells sz E w lo hi v l) (ht : Turned w w' v l.length) (hs : hi2 ≤ lo ∨ hi ≤ lo2) (hh : hi2 ≤ w.heap.size) : Rd cells2 sz2 w' lo2 hi2 v2 l2 := by
  obtain ⟨row, hg, hw⟩ := h.turned_in ht
  exact hr.grown hg hh fun g e => by have := hw g e; omega
theorem Ow.turned (hr : Ow cells2 sz2 E2 w lo2 hi2 v2 l2) (h : Ow cells sz E w lo hi v l) (ht : Turned w w' v l.length) (hs : hi2 ≤ lo ∨ hi ≤ lo2) : Ow cells2 sz2 E2 w' lo2 hi2 v2 l2 := by
  obtain ⟨row, hg, hw⟩ := h.turned_in ht
  exact hr.keep fun b h1 h2 h3 => hg.block b h3 (fun e => by have := hw b e.symm; omega)
theorem Ow.turned_type (hr : Ow cells2 sz2 E2 w lo2 hi2 v2 l2) (h : Ow cells sz E w lo hi v l) (ht : Turned w w' v l.length) (hE : E ≠ E2) : Ow cells2 sz2 E2 w' lo2 hi2 v2 l2 := by
  obtain ⟨row, hg, hw⟩ := h.turned_in ht
  obtain ⟨A, c, hv, hc, hm, hr⟩ := hr
  refine ⟨A, c, hv, hc, hm, fun hn => ?_⟩
  obtain ⟨b, off, cur, hA, hb1, hb2, hh, hz, hx⟩ := hr hn
  refine ⟨b, off, cur, hA, hb1, hb2, (hg.block b (Array.getElem?_eq_some_iff.1 hh).1 (fun e => ?_)).trans hh, hz, hx⟩
  obtain ⟨_, _, cur', hh'⟩ := hw b e.symm
  rw [hh] at hh'
  injection hh' with hh'
  injection hh' with _ h4
  exact hE h4.symm
theorem Below.turned {B : Nat} {W : World} (hb : Below B W w) (h : Ow cells sz E w lo hi v l) (ht : Turned w w' v l.length) (hB : B ≤ lo) (hh : B ≤ w.heap.size) : Below B W w' := by
  obtain ⟨row, hg, hw⟩ := h.turned_in ht
  exact hb.grown hg hh fun g e => by have := hw g e; omega
theorem Turned.size {n : Nat} (ht : Turned w w' v n) : w.heap.size ≤ w'.heap.size := by
  obtain ⟨row, hg, _⟩ := ht
  exact hg.size
theorem grown_trans {w1 : World} {row : Option Nat} (h : w.grownBy w1 row) (k : w1.grownBy w' row) : w.grownBy w' row :=
  ⟨k.os.trans h.os, k.tape.trans h.tape, k.output.trans h.output, Nat.le_trans h.size k.size, fun i hi hne => (k.block i (Nat.lt_of_lt_of_le hi h.size) hne).trans (h.block i hi hne)⟩
theorem Turned.refl (w : World) (v : Value) (n : Nat) : Turned w w v n := ⟨none, World.grownBy.refl w _, fun g e => by cases e⟩
end

theorem flat_get (hs : ∀ x, (cells x).length = sz) : ∀ (l : List α) (k : Nat) (x : α) (j : Nat) (u : Value), l[k]? = some x → (cells x)[j]? = some u → (l.flatMap cells)[k * sz + j]? = some u
  | [], k, x, j, u, h, _ => by simp at h
  | y :: l, 0, x, j, u, h, hu => by
    simp only [List.getElem?_cons_zero, Option.some.injEq] at h
    subst h
    obtain ⟨hj, _⟩ := List.getElem?_eq_some_iff.1 hu
    simp only [List.flatMap_cons, Nat.zero_mul, Nat.zero_add]
    rw [List.getElem?_append_left hj]; exact hu
  | y :: l, k + 1, x, j, u, h, hu => by
    simp only [List.getElem?_cons_succ] at h
    have ih := flat_get hs l k x j u h hu
    simp only [List.flatMap_cons]
    rw [List.getElem?_append_right (by rw [hs]; rw [Nat.succ_mul]; omega), hs, show (k + 1) * sz + j - sz = k * sz + j by rw [Nat.succ_mul]; omega]
    exact ih
theorem flat_len (hs : ∀ x, (cells x).length = sz) : ∀ l : List α, (l.flatMap cells).length = l.length * sz
  | [] => by simp
  | y :: l => by rw [List.flatMap_cons, List.length_append, hs, flat_len hs l, List.length_cons, Nat.succ_mul]; omega

/-- what append and make leave, as a list of elements -/
theorem Ow.of_own (hs : ∀ x, (cells x).length = sz) {n : Nat} {xs : List Value} (h : w.ownsRow lo E sz v n xs) (hx : xs = l.flatMap cells) (hn : n = l.length) : Ow cells sz E w lo w.heap.size v l := by
  subst hx; subst hn
  obtain ⟨h1, ⟨rfl, h0⟩ | ⟨g, cap, cur, rfl, hb, hh, hc, hm, hz, ht⟩⟩ := h
  · have : l = [] := List.eq_nil_of_length_eq_zero h0
    subst this; exact Ow.nil_
  · refine ⟨_, cap, rfl, hc, hm, fun _ => ⟨g, 0, cur, rfl, hb, (Array.getElem?_eq_some_iff.1 hh).1, hh, by omega, fun k x hx j u hu => ?_⟩⟩
    have hg := flat_get hs l k x j u hx hu
    rw [← ht, List.getElem?_take] at hg
    split at hg
    · rw [Nat.zero_add]; simpa using hg
    · cases hg
end

/-! ### A row of the call's own, filled element by element -/

/-- stores of one-cell values, one behind the other -/
def setL (w : World) (g off : Nat) : List Value → World
  | [] => w
  | v :: vs => setL (w.setCell ⟨g, off, none⟩ v) g (off + 1) vs

theorem setL_size : ∀ (vs : List Value) (w : World) (g off : Nat), (setL w g off vs).heap.size = w.heap.size
  | [], _, _, _ => rfl
  | v :: vs, w, g, off => by unfold setL; rw [setL_size vs]; simp [World.setCell]
theorem setL_other : ∀ (vs : List Value) (w : World) (g off k : Nat), k ≠ g → (setL w g off vs).heap[k]? = w.heap[k]?
  | [], _, _, _, _, _ => rfl
  | v :: vs, w, g, off, k, h => by unfold setL; rw [setL_other vs _ _ _ _ h]; exact Below.heap_setCell _ _ _ _ h
theorem setL_frame : ∀ (vs : List Value) (w : World) (g off : Nat), (setL w g off vs).os = w.os ∧ (setL w g off vs).tape = w.tape ∧ (setL w g off vs).output = w.output
  | [], _, _, _ => ⟨rfl, rfl, rfl⟩
  | v :: vs, w, g, off => by unfold setL; exact setL_frame vs _ _ _
theorem setL_grown (vs : List Value) (w : World) (g off : Nat) : w.grownBy (setL w g off vs) (some g) :=
  ⟨(setL_frame vs w g off).1, (setL_frame vs w g off).2.1, (setL_frame vs w g off).2.2, Nat.le_of_eq (setL_size vs w g off).symm, fun k _ hk => setL_other vs w g off k (fun e => hk (by rw [e]))⟩
theorem setL_below {B : Nat} {a w : World} (h : Below B a w) (vs : List Value) (g off : Nat) (hg : B ≤ g) : Below B a (setL w g off vs) :=
  h.trans ⟨(setL_frame vs w g off).1, (setL_frame vs w g off).2.1, (setL_frame vs w g off).2.2, Nat.le_of_eq (setL_size vs w g off).symm, fun k hk => setL_other vs w g off k (by omega)⟩
theorem setL_row (E : TypeId) : ∀ (vs : List Value) (w : World) (g off : Nat) (cur : Array Value), w.heap[g]? = some (.cells cur E (0, 0)) → off + vs.length ≤ cur.size →
    ∃ cur', (setL w g off vs).heap[g]? = some (.cells cur' E (0, 0)) ∧ cur'.size = cur.size ∧ (∀ j u, vs[j]? = some u → cur'[off + j]? = some u) ∧ ∀ j, j < off ∨ off + vs.length ≤ j → cur'[j]? = cur[j]?
  | [], w, g, off, cur, h, _ => ⟨cur, h, rfl, fun j u hu => by simp at hu, fun _ _ => rfl⟩
  | v :: vs, w, g, off, cur, h, hl => by
    simp only [List.length_cons] at hl
    have h1 : (w.setCell ⟨g, off, none⟩ v).heap[g]? = some (.cells (cur.setIfInBounds off v) E (0, 0)) := by simp [World.setCell, Array.getElem?_modify, h]
    obtain ⟨cur', e1, e2, e3, e4⟩ := setL_row E vs _ g (off + 1) _ h1 (by simp; omega)
    refine ⟨cur', e1, by simpa using e2, fun j u hu => ?_, fun j hj => ?_⟩
    · cases j with
      | zero =>
        simp only [List.getElem?_cons_zero, Option.some.injEq] at hu
        subst hu
        rw [Nat.add_zero, e4 off (by omega), Array.getElem?_setIfInBounds, if_pos rfl, if_pos (by omega)]
      | succ j =>
        simp only [List.getElem?_cons_succ] at hu
        have := e3 j u hu
        rwa [show off + (j + 1) = off + 1 + j by omega]
    · simp only [List.length_cons] at hj
      rw [e4 j (by omega), Array.getElem?_setIfInBounds, if_neg (by omega)]

/-- the first l.length elements of the row of n at (g, off) are l; nothing of the block is frozen -/
def Part {α : Type} (cells : α → List Value) (sz : Nat) (E : TypeId) (w : World) (g off n : Nat) (l : List α) : Prop :=
  ∃ cur : Array Value, w.heap[g]? = some (.cells cur E (0, 0)) ∧ off + n * sz ≤ cur.size ∧ ∀ k x, l[k]? = some x → ∀ j u, (cells x)[j]? = some u → cur[off + k * sz + j]? = some u

section
variable {α : Type} {cells : α → List Value} {sz : Nat} {E : TypeId} {w w' : World} {g off n : Nat} {l : List α}
theorem Part.start (cur : Array Value) (h : w.heap[g]? = some (.cells cur E (0, 0))) (hs : off + n * sz ≤ cur.size) : Part cells sz E w g off n [] :=
  ⟨cur, h, hs, fun k x hx => by simp at hx⟩
theorem Part.block (h : Part cells sz E w g off n l) (hb : w'.heap[g]? = w.heap[g]?) : Part cells sz E w' g off n l := by
  obtain ⟨cur, h1, h2⟩ := h
  exact ⟨cur, hb.trans h1, h2⟩
theorem Part.lt (h : Part cells sz E w g off n l) : g < w.heap.size := by
  obtain ⟨cur, h1, h2⟩ := h
  exact (Array.getElem?_eq_some_iff.1 h1).1
theorem Part.below (h : Part cells sz E w g off n l) (hb : Below w.heap.size w w') : Part cells sz E w' g off n l := h.block (hb.block g h.lt)
theorem Part.frozen (h : Part cells sz E w g off n l) (o : Nat) : w.frozen? ⟨g, o, none⟩ = false := by
  obtain ⟨cur, h1, h2⟩ := h
  exact frozen_of_row w g o cur E h1
theorem Part.cell (h : Part cells sz E w g off n l) {i j : Nat} (hi : i < n) (hj : j < sz) : ∃ u, w.cell? ⟨g, off + i * sz + j, none⟩ = some u := by
  obtain ⟨cur, h1, h2, _⟩ := h
  have h3 : (i + 1) * sz ≤ n * sz := Nat.mul_le_mul_right _ hi
  rw [Nat.succ_mul] at h3
  rw [cell_of_row w g _ cur E (0, 0) h1]
  exact ⟨_, Array.getElem?_eq_getElem (by omega)⟩
theorem Part.cell1 (h : Part cells 1 E w g 0 n l) {i : Nat} (hi : i < n) : ∃ u, w.cell? ⟨g, i, none⟩ = some u := by
  simpa using h.cell hi (show 0 < 1 by omega)
theorem Part.cell2 (h : Part cells 2 E w g 0 n l) {i : Nat} (hi : i < n) : (∃ u, w.cell? ⟨g, i * 2, none⟩ = some u) ∧ (∃ u, w.cell? ⟨g, i * 2 + 1, none⟩ = some u) :=
  ⟨by simpa using h.cell hi (show 0 < 2 by omega), by simpa using h.cell hi (show 1 < 2 by omega)⟩
theorem Part.cell3 (h : Part cells 3 E w g 0 n l) {i : Nat} (hi : i < n) : (∃ u, w.cell? ⟨g, i * 3, none⟩ = some u) ∧ (∃ u, w.cell? ⟨g, i * 3 + 1, none⟩ = some u) ∧ (∃ u, w.cell? ⟨g, i * 3 + 2, none⟩ = some u) :=
  ⟨by simpa using h.cell hi (show 0 < 3 by omega), by simpa using h.cell hi (show 1 < 3 by omega), by simpa using h.cell hi (show 2 < 3 by omega)⟩
theorem Part.cell4 (h : Part cells 4 E w g 0 n l) {i : Nat} (hi : i < n) : (∃ u, w.cell? ⟨g, i * 4, none⟩ = some u) ∧ (∃ u, w.cell? ⟨g, i * 4 + 1, none⟩ = some u) ∧ (∃ u, w.cell? ⟨g, i * 4 + 2, none⟩ = some u) ∧ (∃ u, w.cell? ⟨g, i * 4 + 3, none⟩ = some u) :=
  ⟨by simpa using h.cell hi (show 0 < 4 by omega), by simpa using h.cell hi (show 1 < 4 by omega), by simpa using h.cell hi (show 2 < 4 by omega), by simpa using h.cell hi (show 3 < 4 by omega)⟩
theorem Part.cell5 (h : Part cells 5 E w g 0 n l) {i : Nat} (hi : i < n) : (∃ u, w.cell? ⟨g, i * 5, none⟩ = some u) ∧ (∃ u, w.cell? ⟨g, i * 5 + 1, none⟩ = some u) ∧ (∃ u, w.cell? ⟨g, i * 5 + 2, none⟩ = some u) ∧ (∃ u, w.cell? ⟨g, i * 5 + 3, none⟩ = some u) ∧ (∃ u, w.cell? ⟨g, i * 5 + 4, none⟩ = some u) :=
  ⟨by simpa using h.cell hi (show 0 < 5 by omega), by simpa using h.cell hi (show 1 < 5 by omega), by simpa using h.cell hi (show 2 < 5 by omega), by simpa using h.cell hi (show 3 < 5 by omega), by simpa using h.cell hi (show 4 < 5 by omega)⟩
theorem Part.cell2o (h : Part cells 2 E w g off n l) {i : Nat} (hi : i < n) : (∃ u, w.cell? ⟨g, off + i * 2, none⟩ = some u) ∧ (∃ u, w.cell? ⟨g, off + i * 2 + 1, none⟩ = some u) :=
  ⟨by simpa using h.cell hi (show 0 < 2 by omega), by simpa using h.cell hi (show 1 < 2 by omega)⟩
theorem Part.cell3o (h : Part cells 3 E w g off n l) {i : Nat} (hi : i < n) : (∃ u, w.cell? ⟨g, off + i * 3, none⟩ = some u) ∧ (∃ u, w.cell? ⟨g, off + i * 3 + 1, none⟩ = some u) ∧ (∃ u, w.cell? ⟨g, off + i * 3 + 2, none⟩ = some u) :=
  ⟨by simpa using h.cell hi (show 0 < 3 by omega), by simpa using h.cell hi (show 1 < 3 by omega), by simpa using h.cell hi (show 2 < 3 by omega)⟩
theorem Part.cell4o (h : Part cells 4 E w g off n l) {i : Nat} (hi : i < n) : (∃ u, w.cell? ⟨g, off + i * 4, none⟩ = some u) ∧ (∃ u, w.cell? ⟨g, off + i * 4 + 1, none⟩ = some u) ∧ (∃ u, w.cell? ⟨g, off + i * 4 + 2, none⟩ = some u) ∧ (∃ u, w.cell? ⟨g, off + i * 4 + 3, none⟩ = some u) :=
  ⟨by simpa using h.cell hi (show 0 < 4 by omega), by simpa using h.cell hi (show 1 < 4 by omega), by simpa using h.cell hi (show 2 < 4 by omega), by simpa using h.cell hi (show 3 < 4 by omega)⟩
theorem Part.cell5o (h : Part cells 5 E w g off n l) {i : Nat} (hi : i < n) : (∃ u, w.cell? ⟨g, off + i * 5, none⟩ = some u) ∧ (∃ u, w.cell? ⟨g, off + i * 5 + 1, none⟩ = some u) ∧ (∃ u, w.cell? ⟨g, off + i * 5 + 2, none⟩ = some u) ∧ (∃ u, w.cell? ⟨g, off + i * 5 + 3, none⟩ = some u) ∧ (∃ u, w.cell? ⟨g, off + i * 5 + 4, none⟩ = some u) :=
  ⟨by simpa using h.cell hi (show 0 < 5 by omega), by simpa using h.cell hi (show 1 < 5 by omega), by simpa using h.cell hi (show 2 < 5 by omega), by simpa using h.cell hi (show 3 < 5 by omega), by simpa using h.cell hi (show 4 < 5 by omega)⟩
theorem Part.cell1o (h : Part cells 1 E w g off n l) {i : Nat} (hi : i < n) : ∃ u, w.cell? ⟨g, off + i, none⟩ = some u := by
  simpa using h.cell hi (show 0 < 1 by omega)
theorem Part.set (h : Part cells sz E w g off n l) (hl : l.length < n) (x : α) (vs : List Value) (hx : cells x = vs) (hvs : vs.length = sz) (hs : ∀ y, (cells y).length = sz) {p : Nat} (hp : p = off + l.length * sz) :
    Part cells sz E (setL w g p vs) g off n (l ++ [x]) := by
  subst hp
  obtain ⟨cur, h1, h2, h3⟩ := h
  have h4 : (l.length + 1) * sz ≤ n * sz := Nat.mul_le_mul_right _ hl
  rw [Nat.succ_mul] at h4
  obtain ⟨cur', e1, e2, e3, e4⟩ := setL_row E vs w g (off + l.length * sz) cur h1 (by omega)
  refine ⟨cur', e1, by omega, fun k y hy j u hu => ?_⟩
  have hj : j < sz := by rw [← hs y]; exact (List.getElem?_eq_some_iff.1 hu).1
  by_cases hk : k < l.length
  · rw [List.getElem?_append_left hk] at hy
    have h5 : (k + 1) * sz ≤ l.length * sz := Nat.mul_le_mul_right _ hk
    rw [Nat.succ_mul] at h5
    rw [e4 _ (by omega)]
    exact h3 k y hy j u hu
  · have hk2 : k = l.length := by
      have := (List.getElem?_eq_some_iff.1 hy).1
      simp at this; omega
    subst hk2
    simp at hy
    subst hy
    rw [hx] at hu
    exact e3 j u hu
theorem Part.ow (h : Part cells sz E w g off n l) (hn : l.length = n) {lo hi c : Nat} (hlo : lo ≤ g) (hhi : g < hi) (hc : n ≤ c) (hm : c ≤ maxLen) (hcn : c ≤ n := by omega) : Ow cells sz E w lo hi (.slice (some ⟨g, off, none⟩) n c) l := by
  obtain ⟨cur, h1, h2, h3⟩ := h
  obtain rfl : c = n := by omega
  exact ⟨_, c, by rw [hn], by omega, hm, fun _ => ⟨g, off, cur, rfl, hlo, hhi, h1, h2, h3⟩⟩
/-- an own row may be filled anew -/
theorem Ow.part {lo hi : Nat} {A : Option Addr} {c : Nat} (hs : ∀ y, (cells y).length = sz) (hsz : 0 < sz) (h : Ow cells sz E w lo hi (.slice A n c) l) (hn : 0 < n) :
    ∃ g off, A = some ⟨g, off, none⟩ ∧ lo ≤ g ∧ g < hi ∧ Part cells sz E w g off n ([] : List α) := by
  obtain ⟨A', c', hv, hc, hm, h⟩ := h
  injection hv with e1 e2 e3
  subst e1; subst e2
  obtain ⟨b, off, cur, hA, hb, hb2, hh, _, hx⟩ := h (by omega)
  refine ⟨b, off, hA, hb, hb2, Part.start cur hh ?_⟩
  have hlast : l[l.length - 1]? = some (l[l.length - 1]'(by omega)) := List.getElem?_eq_getElem _
  have hj : (cells (l[l.length - 1]'(by omega)))[sz - 1]? = some ((cells (l[l.length - 1]'(by omega)))[sz - 1]'(by rw [hs]; omega)) := List.getElem?_eq_getElem _
  have := (Array.getElem?_eq_some_iff.1 (hx _ _ hlast _ _ hj)).1
  have e : l.length * sz = (l.length - 1) * sz + sz := by rw [← Nat.succ_mul]; congr 1; omega
  omega
theorem Ow.len {lo hi : Nat} {v : Value} (h : Ow cells sz E w lo hi v l) : l.length ≤ maxLen := by
  obtain ⟨A, c, _, hc, hm, _⟩ := h; omega
end

/-- 'make([]T, n)': a new block of n zero elements -/
theorem make_new {P : Program} {t e : TypeId} {i : TypeInfo} {z : Value} (ht : P.underlying t = some (.slice e)) (hi : P.info? e = some i) (hz : i.zero = some z) (n : Nat) (hn : n ≤ 1048576) (hb : i.bytes ≤ 65536) (W : World) :
    (Instr.makeSlice t (.int .i64 (n : Int)) (.int .i64 (n : Int))).run P W = .ok (.slice (some ⟨W.heap.size, 0, none⟩) n n) (W.alloc (.cells (madeCells z.cells (n * i.size)) e)) := by
  have h1 : i.bytes * n ≤ 65536 * 1048576 := Nat.mul_le_mul hb hn
  have h2 : (i.bytes : Int) * (n : Int) ≤ 281474976710656 := by rw [← Int.natCast_mul]; omega
  have hr := run_make (P := P) W t e i z ht hi hz .i64 .i64 n n (by omega) (by omega) h2 (by omega)
  simpa only [Int.toNat_natCast] using hr
theorem heap_made (W : World) (z : Array Value) (n : Nat) (e : TypeId) : ∃ cur, (W.alloc (.cells (madeCells z n) e)).heap[W.heap.size]? = some (.cells cur e (0, 0)) ∧ cur.size = n :=
  ⟨_, heap_alloc_new W _, size_madeCells _ _⟩

/-! ### append onto a row of the call's own -/
theorem flat_inv {α : Type} {cells : α → List Value} {sz : Nat} (hs : ∀ x, (cells x).length = sz) : ∀ (l : List α) (j : Nat) (u : Value), (l.flatMap cells)[j]? = some u → ∃ k x i, l[k]? = some x ∧ (cells x)[i]? = some u ∧ j = k * sz + i
  | [], j, u, h => by simp at h
  | y :: l, j, u, h => by
    simp only [List.flatMap_cons] at h
    by_cases hj : j < sz
    · rw [List.getElem?_append_left (by rw [hs]; exact hj)] at h
      exact ⟨0, y, j, by simp, h, by omega⟩
    · rw [List.getElem?_append_right (by rw [hs]; omega), hs] at h
      obtain ⟨k, x, i, h1, h2, h3⟩ := flat_inv hs l (j - sz) u h
      exact ⟨k + 1, x, i, by simpa using h1, h2, by rw [Nat.succ_mul]; omega⟩

theorem run_app_rd {α : Type} {cells : α → List Value} {P : Program} (w : World) (base : Nat) (t ty e : TypeId) (i : TypeInfo) (z : Value) (sz bytes : Nat) (ht : P.underlying t = some (.slice e)) (hi : P.info? e = some i) (hz : i.zero = some z)
    (hsize : i.size = sz) (hby : i.bytes = bytes) (hzs : z.cells.size = sz) (hsz : 0 < sz) (hcl : ∀ x, (cells x).length = sz) (h1 : ∀ y u, u ∈ cells y → u.oneCell' = true)
    (v : Value) (n : Nat) (xs : List Value) (hown : w.ownsRow base e sz v n xs) {lo hi' m c : Nat} {A : Option Addr} {l : List α} (hr : Rd cells sz w lo hi' (.slice A m c) l)
    (h63 : n + m ≤ maxLen) (hbytes : (n + m) * bytes ≤ 140737488355328) (hbase : base ≤ w.heap.size) :
    ∃ v' w', (Builtin.append_ #[t, t] ty #[v, .slice A m c]).run P w = .ok v' w' ∧ w'.ownsRow base e sz v' (n + m) (xs ++ l.flatMap cells) ∧ w.grownBy w' v.ownBlock := by
  obtain ⟨A', c', hv, hc, hm, hcell⟩ := hr
  injection hv with e1 e2 e3
  subst e1; subst e2; subst e3
  rcases A with _ | ad
  · have hl : l = [] := by
      rcases Nat.eq_zero_or_pos l.length with h0 | h0
      · exact List.eq_nil_of_length_eq_zero h0
      · obtain ⟨b, off, hA, _⟩ := hcell h0
        cases hA
    subst hl
    refine ⟨v, w, ?_, by simpa using hown, World.grownBy.refl w _⟩
    rcases hown.2 with ⟨rfl, rfl⟩ | ⟨g, cap, cur, rfl, _, _, hnc, _⟩
    · simp [Builtin.append_, run_underlying ht, sizeOf, typeInfo, hi, Builtin.lenOf, Builtin.firstCells]
    · simp [Builtin.append_, run_underlying ht, sizeOf, typeInfo, hi, Builtin.lenOf, Builtin.firstCells, hnc, storeCells]
  · have hnews : ∀ j u, (l.flatMap cells)[j]? = some u → w.cell? (ad.add j) = some u := by
      intro j u hu
      obtain ⟨k, x, i', hk, hx, rfl⟩ := flat_inv hcl l j u hu
      have hlt := (List.getElem?_eq_some_iff.1 hk).1
      obtain ⟨b, off, hA, _, _, h⟩ := hcell (by omega)
      injection hA with hA
      subst hA
      rw [Go.WideShapes.add_plain, ← Nat.add_assoc]
      exact h k x hk i' u hx
    obtain ⟨v', w', hrun, h2, h3, _⟩ := run_append_own_at (P := P) w base t ty e i z sz bytes ht hi hz hsize hby hzs hsz v n xs hown ad l.length c (l.flatMap cells) (flat_len hcl l) hnews
      (fun u hu => by obtain ⟨y, _, hy⟩ := List.mem_flatMap.1 hu; exact h1 y u hy) h63 hbytes hbase
    exact ⟨v', w', hrun, h2, h3⟩

theorem wp_app_rd {α : Type} {cells : α → List Value} {P : Program} {w : World} {ops : Array Oper} {rest : List Oper} {o : Oper} {a : Act} {Q : Exit → Act → World → Prop} (hgd : o.guard = none) (s x : Operand) (t : TypeId)
    (ho : o.op = .call { callee := .builtin .append, args := #[s, x], argTypes := #[t, t] })
    (base : Nat) (e : TypeId) (i : TypeInfo) (z : Value) (sz bytes : Nat) (ht : P.underlying t = some (.slice e)) (hi : P.info? e = some i) (hz : i.zero = some z)
    (hsize : i.size = sz) (hby : i.bytes = bytes) (hzs : z.cells.size = sz) (hsz : 0 < sz) (hcl : ∀ x, (cells x).length = sz) (h1 : ∀ y u, u ∈ cells y → u.oneCell' = true)
    (v : Value) (n : Nat) (xs : List Value) (hs : a.eval s = v) (hown : w.ownsRow base e sz v n xs) {lo hi' m c : Nat} {A : Option Addr} {l : List α} (hx : a.eval x = .slice A m c) (hr : Rd cells sz w lo hi' (.slice A m c) l)
    (h63 : n + m ≤ maxLen) (hbytes : (n + m) * bytes ≤ 140737488355328) (hbase : base ≤ w.heap.size)
    (h : ∀ v' w', w'.ownsRow base e sz v' (n + m) (xs ++ l.flatMap cells) → w.grownBy w' v.ownBlock → wpList P ops Q rest (a.put o.dst v') w') : wpList P ops Q (o :: rest) a w := by
  refine wpList_plain hgd fun K hK => ?_
  obtain ⟨v', w', hrun, h2, h3⟩ := run_app_rd (P := P) w base t o.type e i z sz bytes ht hi hz hsize hby hzs hsz hcl h1 v n xs hown hr h63 hbytes hbase
  unfold Oper.wp execOp
  simp only [ho, resolve, invoke, builtin, Sem.run_bind, Sem.run_pure, Result.andThen_ok, List.map_toArray, List.map_cons, List.map_nil, hs, hx, hrun]
  exact hK _ _ (h v' w' h2 h3)

/-! ### A closure that changes one element in place -/
/-- the sz cells at (b, o), which held xs, hold ys; the block is else as it was; no other old block has turned -/
def Upd (E : TypeId) (sz : Nat) (w w' : World) (b o : Nat) (xs ys : List Value) : Prop :=
  w.grownBy w' (some b) ∧ ∀ cur : Array Value, w.heap[b]? = some (.cells cur E (0, 0)) → o + sz ≤ cur.size → (∀ j u, xs[j]? = some u → cur[o + j]? = some u) →
    ∃ cur' : Array Value, w'.heap[b]? = some (.cells cur' E (0, 0)) ∧ cur'.size = cur.size ∧ (∀ j u, ys[j]? = some u → cur'[o + j]? = some u) ∧ ∀ j, j < o ∨ o + sz ≤ j → cur'[j]? = cur[j]?

theorem Upd.drew {E : TypeId} {sz : Nat} {w w' : World} {b o : Nat} {xs ys : List Value} (h : Upd E sz w w' b o xs ys) : Upd E sz w w'.drew b o xs ys :=
  ⟨⟨h.1.os, h.1.tape, h.1.output, h.1.size, h.1.block⟩, h.2⟩
theorem Upd.of_setL {E : TypeId} {sz : Nat} {w : World} {b o : Nat} {xs ys ys' : List Value} (s : Nat) (hx : xs.length = sz) (he : ys' = xs.take s ++ (ys ++ xs.drop (s + ys.length))) (hle : s + ys.length ≤ sz) : Upd E sz w (setL w b (o + s) ys) b o xs ys' := by
  refine ⟨setL_grown ys w b (o + s), fun cur hh hsz hc => ?_⟩
  obtain ⟨cur', e1, e2, e3, e4⟩ := setL_row E ys w b (o + s) cur hh (by omega)
  refine ⟨cur', e1, e2, fun j u hu => ?_, fun j hj => e4 j (by omega)⟩
  have htl : (xs.take s).length = s := by rw [List.length_take]; omega
  subst he
  by_cases h1 : j < s
  · rw [List.getElem?_append_left (by omega), List.getElem?_take, if_pos h1] at hu
    rw [e4 _ (by omega)]
    exact hc j u hu
  · rw [List.getElem?_append_right (by omega), htl] at hu
    by_cases h2 : j - s < ys.length
    · rw [List.getElem?_append_left h2] at hu
      have := e3 _ u hu
      rwa [show o + s + (j - s) = o + j by omega] at this
    · rw [List.getElem?_append_right (by omega), List.getElem?_drop, show s + ys.length + (j - s - ys.length) = j by omega] at hu
      rw [e4 _ (by omega)]
      exact hc j u hu

theorem Ow.upd {α : Type} {cells : α → List Value} {sz : Nat} {E : TypeId} {w w' : World} {lo hi b off n c i : Nat} {l : List α} {t t' : α} (hs : ∀ y, (cells y).length = sz) (hsz0 : 0 < sz) (h : Ow cells sz E w lo hi (.slice (some ⟨b, off, none⟩) n c) l)
    (hi' : l[i]? = some t) (hu : Upd E sz w w' b (off + i * sz) (cells t) (cells t')) : Ow cells sz E w' lo hi (.slice (some ⟨b, off, none⟩) n c) (l.set i t') := by
  obtain ⟨A, c', hv, hc, hm, h⟩ := h
  injection hv with e1 e2 e3
  subst e1; subst e2; subst e3
  refine ⟨_, c, by rw [List.length_set], by rw [List.length_set]; exact hc, hm, fun hn => ?_⟩
  obtain ⟨b', off', cur, hA, hb1, hb2, hh, hzz, hx⟩ := h hn
  injection hA with hA
  injection hA with e1 e2
  subst e1; subst e2
  obtain ⟨hlt, _⟩ := List.getElem?_eq_some_iff.1 hi'
  have hsz : off + i * sz + sz ≤ cur.size := by
    have hj : (cells t)[sz - 1]? = some ((cells t)[sz - 1]'(by rw [hs]; omega)) := List.getElem?_eq_getElem _
    have := (Array.getElem?_eq_some_iff.1 (hx i t hi' (sz - 1) _ hj)).1
    omega
  obtain ⟨cur', e1, e2, e3, e4⟩ := hu.2 cur hh hsz (fun j u hu => hx i t hi' j u hu)
  refine ⟨b, off, cur', rfl, hb1, hb2, e1, by omega, fun k x hk j u hu => ?_⟩
  have hj : j < sz := by rw [← hs x]; exact (List.getElem?_eq_some_iff.1 hu).1
  rw [List.getElem?_set] at hk
  split at hk
  · rename_i e
    subst e
    injection hk with hk
    subst hk
    exact e3 j u hu
  · rename_i hne
    rw [e4 _ (by
      rcases Nat.lt_or_ge k i with hki | hki
      · have : (k + 1) * sz ≤ i * sz := Nat.mul_le_mul_right _ hki
        rw [Nat.succ_mul] at this
        omega
      · have : (i + 1) * sz ≤ k * sz := Nat.mul_le_mul_right _ (by omega)
        rw [Nat.succ_mul] at this
        omega)]
    exact hx k x hk j u hu

/-! ### Arguments opened: a slice of structs of one-cell fields, a slice of one-cell elements -/
section
variable {H : Type} {enc : TypeId × Value → H} {P : Program} {w : World} {base : Nat} {spare : Nat → Bool} {held : Bool}
theorem rd_of_cells {α : Type} [Inhabited α] {cells : α → List Value} {sz : Nat} (hsz : 0 < sz) (hlen : ∀ x, (cells x).length = sz) {a : Addr} {len cap : Nat} (hl : len ≤ cap) (hm : cap ≤ maxLen)
    (h : ∀ i, i < len → ∃ x : α, ∀ j u, (cells x)[j]? = some u → w.cell? (a.add (i * sz + j)) = some u) : ∃ l : List α, Rd cells sz w 0 w.heap.size (.slice (some a) len cap) l := by
  obtain ⟨f, hf⟩ := choose_lt h
  refine ⟨(List.range len).map f, some a, cap, by simp, by simpa using hl, hm, fun hn => ?_⟩
  have hn' : 0 < len := by simpa using hn
  obtain ⟨b, off, spot⟩ := a
  have h0 : ∀ j u, (cells (f 0))[j]? = some u → w.cell? ((⟨b, off, spot⟩ : Addr).add (0 * sz + j)) = some u := hf 0 hn'
  have hc0 : (cells (f 0))[0]? = some ((cells (f 0))[0]'(by rw [hlen]; exact hsz)) := List.getElem?_eq_getElem _
  have h00 := h0 0 _ hc0
  have hspot : spot = none := by simpa [Addr.add] using World.cell?_spot h00
  subst hspot
  refine ⟨b, off, rfl, Nat.zero_le _, by simpa [Addr.add] using World.block_lt_of_cell? w _ h00, fun k x hx j u hu => ?_⟩
  simp only [List.getElem?_map, Option.map_eq_some_iff] at hx
  obtain ⟨i, hi, rfl⟩ := hx
  obtain ⟨hlt, hi'⟩ := List.getElem?_eq_some_iff.1 hi
  simp only [List.getElem_range] at hi'
  subst hi'
  have := hf k (by simpa using hlt) j u hu
  rwa [Go.WideShapes.add_plain, ← Nat.add_assoc] at this

theorem open_rd {α : Type} [Inhabited α] {cells : α → List Value} {sz : Nat} (hsz : 0 < sz) (hlen : ∀ x, (cells x).length = sz) {t e : TypeId} {fs : Array Field} {v : Value} {d : DataW H} {p : List MemPlace} {r : Reach} {b0 : Nat} (ht : P.underlying t = some (.slice e)) (he : P.underlying e = some (.struct fs))
    (hone : oneCellFields P fs = true) (hC : P.cellsOf e = fs.size) (hfs : fs.size = sz)
    (helem : ∀ V : Nat → Value, (∀ j f, fs[j]? = some f → ∃ n y, DataW.trod enc P w base spare held n f.type [V j] = some y) → ∃ x : α, ∀ j u, (cells x)[j]? = some u → u = V j)
    (hv : Value.okWide P w r b0 t v) (h : DataW.Trod enc P w base spare held t v d p) : ∃ l : List α, Rd cells sz w 0 w.heap.size v l := by
  obtain ⟨a0, len0, cap0, rfl⟩ := okWide_slice ht hv
  obtain ⟨fuel, hf⟩ := h
  rcases open_slice ht (by simpa [Value.cells] using hf) with ⟨h0, _⟩ | ⟨a, len, cap, m, n, D, Pl, hcs, _, hl, hm, hmm, _, hi⟩
  · simp only [List.cons.injEq, and_true] at h0
    rw [h0]
    exact ⟨[], Rd.nil_⟩
  · simp only [List.cons.injEq, and_true] at hcs
    rw [hcs]
    refine rd_of_cells hsz hlen hl hm fun i hil => ?_
    obtain ⟨cs', hc, ht'⟩ := hi i (by rw [hmm]; split <;> omega)
    rw [hC, hfs] at hc
    obtain ⟨ys, n', _, _, hl', _, hg⟩ := DataW.trod_struct he ht'
    obtain ⟨_, hcl, hat⟩ := World.cells?_some hc
    obtain ⟨x, hx⟩ := helem (fun j => cs'.getD j undef) (fun j f hj => by
      obtain ⟨ho, hk⟩ := hone_of hone j f hj
      have hjl : j < fs.size := (Array.getElem?_eq_some_iff.1 hj).1
      have h1 := hg j f hj
      rw [ho, hk, take1_drop _ _ undef (by omega)] at h1
      cases hys : ys[j]? with
      | none => exact absurd (List.getElem?_eq_none_iff.1 hys) (by omega)
      | some y => exact ⟨_, _, h1.trans hys⟩)
    refine ⟨x, fun j u hu => ?_⟩
    have hj : j < sz := by rw [← hlen x]; exact (List.getElem?_eq_some_iff.1 hu).1
    rw [← Go.Deep.add_add, hat j hj, hx j u hu, List.getD_eq_getElem?_getD, List.getElem?_eq_getElem (by omega)]
    rfl

theorem open_rd1 {α : Type} [Inhabited α] {c : α → Value} {t e : TypeId} {v : Value} {d : DataW H} {p : List MemPlace} {r : Reach} {b0 : Nat} (ht : P.underlying t = some (.slice e)) (hC : P.cellsOf e = 1)
    (helem : ∀ (cs : List Value) (n : Nat) (y : DataW H × List MemPlace), DataW.trod enc P w base spare held n e cs = some y → ∃ x : α, cs = [c x])
    (hv : Value.okWide P w r b0 t v) (h : DataW.Trod enc P w base spare held t v d p) : ∃ l : List α, Rd (fun x => [c x]) 1 w 0 w.heap.size v l := by
  obtain ⟨a0, len0, cap0, rfl⟩ := okWide_slice ht hv
  obtain ⟨fuel, hf⟩ := h
  rcases open_slice ht (by simpa [Value.cells] using hf) with ⟨h0, _⟩ | ⟨a, len, cap, m, n, D, Pl, hcs, _, hl, hm, hmm, _, hi⟩
  · simp only [List.cons.injEq, and_true] at h0
    rw [h0]
    exact ⟨[], Rd.nil_⟩
  · simp only [List.cons.injEq, and_true] at hcs
    rw [hcs]
    refine rd_of_cells Nat.one_pos (fun _ => rfl) hl hm fun i hil => ?_
    obtain ⟨cs', hc, ht'⟩ := hi i (by rw [hmm]; split <;> omega)
    rw [hC] at hc
    obtain ⟨x, rfl⟩ := helem cs' _ _ ht'
    obtain ⟨_, hcl, hat⟩ := World.cells?_some hc
    refine ⟨x, fun j u hu => ?_⟩
    have hj : j < 1 := (List.getElem?_eq_some_iff.1 hu).1
    rw [← Go.Deep.add_add, hat j hj]; exact hu
end

/-- what the law text's count of sizes leaves -/
def szL (left : Int) (n : Nat) : Int := if left - n < 0 then -1 else left - n
theorem szL_no {left : Int} {n : Nat} (h : left < n) : szL left n = -1 := by unfold szL; rw [if_pos (by omega)]
theorem szL_yes {left : Int} {n : Nat} (h : (n : Int) ≤ left) : szL left n = left - n := by unfold szL; rw [if_neg (by omega)]

/-- the place of the first element that is chosen, -1 if there is none -/
def findIx {α : Type} (p : α → Bool) (l : List α) : Int := if l.any p then l.findIdx p else -1

theorem findIx_hit {α : Type} {p : α → Bool} {l : List α} {k : Nat} {x : α} (h1 : (l.take k).any p = false) (h2 : l[k]? = some x) (h3 : p x = true) : findIx p l = k := by
  have ha : l.any p = true := List.any_eq_true.2 ⟨x, List.mem_of_getElem? h2, h3⟩
  obtain ⟨hk, hx⟩ := List.getElem?_eq_some_iff.1 h2
  have hf : l.findIdx p = k := by
    rw [List.findIdx_eq hk]
    refine ⟨by rw [hx]; exact h3, fun j hj => ?_⟩
    have h4 := List.any_eq_false.1 h1 (l[j]'(by omega)) (by
      rw [List.mem_take_iff_getElem]
      exact ⟨j, by omega, rfl⟩)
    simpa using h4
  simp [findIx, ha, hf]
theorem findIx_nonneg {α : Type} (p : α → Bool) (l : List α) : decide (0 ≤ findIx p l) = l.any p := by
  unfold findIx
  cases l.any p <;> simp
theorem findIx_spec {α : Type} {p : α → Bool} {l : List α} (h : l.any p = true) : ∃ k x, findIx p l = (k : Nat) ∧ k < l.length ∧ l[k]? = some x ∧ p x = true ∧ (l.take k).any p = false := by
  have hlt : l.findIdx p < l.length := List.findIdx_lt_length.2 (List.any_eq_true.1 h)
  refine ⟨l.findIdx p, l[l.findIdx p], by simp [findIx, h], hlt, List.getElem?_eq_getElem _, List.findIdx_getElem, ?_⟩
  rw [List.any_eq_false]
  intro y hy
  rw [List.mem_take_iff_getElem] at hy
  obtain ⟨j, hj, rfl⟩ := hy
  exact fun hq => by
    have := List.not_of_lt_findIdx (p := p) (xs := l) (i := j) (by omega)
    simp [this] at hq
theorem enters {P : Program} {f : FuncId} {fn : Func} {c : Code} (hf : P.funcs[f]? = some fn) (hname : (fn.name == "runtime.NumGoroutine") = false) (hb : fn.body = some c) : ∀ args w, (callFunc f args).run P w = .ok (.enter f args) w := by
  intro args w
  have h1 : fn.name ≠ "runtime.NumGoroutine" := by simpa using hname
  simp [callFunc, hf, h1, hb, mark]

/-! ### Facts on the program -/
theorem own : ownKnob Tryd.prog.godebug = none := by kernel_rfl
theorem laidOut : laidOutB Tryd.prog = true := by kernel_rfl

/-! ### The frame of a law: from a contract 'returns true, and nothing that was there has turned' to the given form -/

theorem trodAll_below {H : Type} {enc : TypeId × Value → H} {P : Program} (hl : laidOutB P = true) {W W' : World} (hb : Below W.heap.size W W') :
    ∀ (ts : List TypeId) (vs : List Value) (ds : List (DataW H)) (ps : List MemPlace), ts.all (fun t => P.readableRec t && decide (t < P.types.size)) = true →
      DataW.TrodAll enc P W 0 (fun _ => true) true ts vs ds ps → (∀ x ∈ ps, x.block < W.heap.size) → DataW.TrodAll enc P W' 0 (fun b => decide (b < W.heap.size)) true ts vs ds ps
  | [], vs, ds, ps, _, h, _ => by
    obtain ⟨rfl, rfl, rfl⟩ := trodAll_nil h
    exact trodAll_mk0
  | t :: ts, vs, ds, ps, hr, h, hp => by
    simp only [List.all_cons, Bool.and_eq_true, decide_eq_true_eq] at hr
    obtain ⟨v, vs', d, ds', p, q, rfl, rfl, rfl, hd, hrest⟩ := trodAll_cons h
    exact trodAll_cons_mk (Below.trod hl hr.1.1 hr.1.2 hd hb (fun x hx => hp x (by simp [hx]))) (trodAll_below hl hb ts vs' ds' q (by simpa using hr.2) hrest (fun x hx => hp x (by simp [hx])))

theorem law_lifted {C : Checked} {os : Os} {f : FuncId} {fn : Func} {s : ChangeSpec} {H : Type} {enc : TypeId × Value → H} {tb : TypeId}
    (own : ownKnob C.prog.godebug = none) (started : os.Started) (noInit : C.prog.inits.idxOf? f = none) (hfn : C.prog.funcs[f]? = some fn)
    (witness : ∃ (w : World) (tape : Tape) (i : Input), w.os = os ∧ (w.forCall tape i).Shaped C.prog ∧ i.vars = [] ∧ Input.okWide C.prog (w.forCall tape i) .any w.heap.size f i ∧
      s.pre6 enc C.prog fn [] false (w.forCall tape i).memory i.args ∧ ({} : Assume).holds C.prog (lone (Frame.enter C.prog f i.args .normal) [] (w.forCall tape i)))
    (hl : laidOutB C.prog = true) (hpar : fn.params.toList.all (fun t => C.prog.readableRec t && decide (t < C.prog.types.size)) = true)
    (hvars : s.vars = []) (hrt : fn.resultTypes = #[tb]) (hbt : C.prog.underlying tb = some .bool)
    (hspec : ∀ ds : List (DataW H), ds.length = fn.params.size → s.fn H ds = { results := [.lit (.bool true)], args := ds })
    (walk : ∀ (W : World) (base : Nat) (args : Array Value) (ds : List (DataW H)) (p : List MemPlace),
      (∀ (j : Nat) t v, fn.params[j]? = some t → args[j]? = some v → Value.okWide C.prog W .any base t v) →
      DataW.TrodAll enc C.prog W 0 (fun _ => true) true fn.params.toList args.toList ds p →
      Calls C.prog f args W fun e W' => e = .returned (.bool true) ∧ Below W.heap.size W W') :
    ReturnsInHanded {} C os f .any (s.pre6 enc C.prog fn [] false) (s.post enc C.prog fn false true false false) := by
  refine returnsInHanded_of_change own started noInit hfn witness ?_
  intro W base args ds gs before hval hW _ _
  have hlt : ∀ p ∈ before, p.block < W.heap.size := fun p hp => hW.lt p hp
  have hW' := hW
  obtain ⟨p, q, hA, hV, rfl, _, _⟩ := hW
  rw [hvars] at hV
  obtain ⟨rfl, rfl⟩ := trodVars_none hV
  have hlen : ds.length = fn.params.size := by
    have h2 : ∀ (ts : List TypeId) (vs : List Value) (ds : List (DataW H)) (ps : List MemPlace), DataW.TrodAll enc C.prog W 0 (fun _ => true) true ts vs ds ps → ds.length = ts.length := by
      intro ts
      induction ts with
      | nil => intro vs ds ps h; obtain ⟨_, rfl, _⟩ := trodAll_nil h; rfl
      | cons t ts ih => intro vs ds ps h; obtain ⟨v, vs', d, ds', p, q, _, rfl, _, _, h⟩ := trodAll_cons h; simp [ih _ _ _ h]
    rw [h2 _ _ _ _ hA]; simp
  have hs := hspec ds hlen
  simp only [List.append_nil] at hW' hlt
  refine (walk W base args ds p hval hA).mono fun e W' ⟨he, hb⟩ => ⟨_, he, ?_⟩
  refine ⟨ds, [], p, [], p, [], hW', ?_, ?_, ?_, World.keptBut_mono (fun x hx => ⟨hx, .inr (.inl hx)⟩) (hb.frame _), fun h => by cases h⟩
  · rw [List.append_nil, hs, hrt]; exact trodAll_mk1 (shut_bool hbt true)
  · rw [List.append_nil, hs]; exact trodAll_below hl hb _ _ _ _ hpar hA hlt
  · rw [List.append_nil, hs, hvars]; exact rfl

end Go.Proofs.YtaggjadgbmmjoaaDoor
