/- Lemmas and walks that the last text of this claim leans on, part 1. No condition. -/
import Derived.Test.YtengaccnncnipaaGreatRows
import Derived.WalkKit
import Derived.ProofKit
import Derived.WalkLawsBesides
import Derived.WalkSpells
import Derived.OpenShut
import Derived.Deep.Slices
import Derived.Deep.Fields
import Derived.Deep.AppendLies
import Derived.Maps.AppendAt
import Derived.Deep.Draws
import Derived.Deep.OwnRows
import Derived.Deep.QuietTactic
import Derived.Deep.RegionHeld3
import Derived.Deep.DeepFit
import Derived.Deep.LoopGhost
import Derived.StillTailTactics
import Derived.BigQuiet
import Derived.BigGuardPart
import Derived.Lib.Hide
import Derived.Lib.SmallJoins
import Derived.Outline
import Derived.Handy
import Derived.StillTail
import Derived.Deep.RegionLaw
import Derived.Lib.BitFns
import Derived.Laws.CopyOwn
import Derived.Laws.Externs
import Derived.Laws.NewBlocks
import Derived.Lib.SliceRun
import Derived.Deep.DeepCutAuto
import Derived.Shelf.Sort.Plain
import Derived.Lib.SortBridge
import Derived.OrdersHeld
import Derived.Deep.RegionHeld
import Derived.Lib.Overlaps
import Derived.Lib.AppendZerosOnto
/- Plain lemmas about memory, used by all walks of this seat: a slice that reads as a list, a slice in memory of the call's own, and the frame of a law. No condition. -/
namespace Go.Proofs.YtengaccnncnipaaGreat
open Go.RowKit Go.ChangeShapes Go.WideShapes Go.Deep

theorem bcell {W w1 : World} {B : Nat} (hb : Below B W w1) : (∀ b o, b < B → w1.cell? ⟨b, o, none⟩ = W.cell? ⟨b, o, none⟩) ∧ (∀ b o, b < B → w1.frozen? ⟨b, o, none⟩ = W.frozen? ⟨b, o, none⟩) :=
  ⟨fun b o h => hb.cell (p := ⟨b, o, none⟩) h, fun b o h => hb.frozen (p := ⟨b, o, none⟩) h⟩
theorem below_drewN {B : Nat} {a w : World} (h : Below B a w) (n : Nat) : Below B a (w.drewN n) := ⟨h.os, h.tape, h.output, h.size, h.block⟩
theorem ret_bool {a b : Bool} (h : a = b) : Ending.returned (.bool a) = .returned (.bool b) := by rw [h]
theorem ret_int {a b : Int} (h : a = b) : Ending.returned (.int .i64 a) = .returned (.int .i64 b) := by rw [h]

/-- The slice value v reads as the list l: element k's cells are 'cells l[k]', sz of them; its block lies in [lo, hi). -/
def Rd {α : Type} (cells : α → List Value) (sz : Nat) (w : World) (lo hi : Nat) (v : Value) (l : List α) : Prop :=
  ∃ A c, v = .slice A l.length c ∧ l.length ≤ c ∧ c ≤ maxLen ∧ (0 < l.length → ∃ b off, A = some ⟨b, off, none⟩ ∧ lo ≤ b ∧ b < hi ∧
    ∀ k x, l[k]? = some x → ∀ j u, (cells x)[j]? = some u → w.cell? ⟨b, off + k * sz + j, none⟩ = some u)

/-- The same, and the cells lie in a block of element type E that nothing has frozen: they may be written. -/
def Ow {α : Type} (cells : α → List Value) (sz : Nat) (E : TypeId) (w : World) (lo hi : Nat) (v : Value) (l : List α) : Prop :=
  ∃ A c, v = .slice A l.length c ∧ l.length ≤ c ∧ c ≤ maxLen ∧ (0 < l.length → ∃ b off cur, A = some ⟨b, off, none⟩ ∧ lo ≤ b ∧ b < hi ∧ w.heap[b]? = some (.cells cur E (0, 0)) ∧
    ∀ k x, l[k]? = some x → ∀ j u, (cells x)[j]? = some u → cur[off + k * sz + j]? = some u)

/-- At most the block of v has turned, and that only if v has elements; new blocks may have come. -/
def Turned (w w' : World) (v : Value) (n : Nat) : Prop := ∃ row, w.grownBy w' row ∧ ∀ g, row = some g → 0 < n ∧ v.ownBlock = some g

section
variable {α : Type} {cells : α → List Value} {sz : Nat} {E : TypeId} {w w' : World} {lo hi lo' hi' : Nat} {v : Value} {l : List α}

theorem Rd.mono (h : Rd cells sz w lo hi v l) (h1 : lo' ≤ lo) (h2 : hi ≤ hi') : Rd cells sz w lo' hi' v l := by
  obtain ⟨A, c, hv, hc, hm, h⟩ := h
  refine ⟨A, c, hv, hc, hm, fun hn => ?_⟩
  obtain ⟨b, off, hA, hb1, hb2, h⟩ := h hn
  exact ⟨b, off, hA, by omega, by omega, h⟩
theorem Rd.keep (h : Rd cells sz w lo hi v l) (hk : ∀ b o, lo ≤ b → b < hi → w'.cell? ⟨b, o, none⟩ = w.cell? ⟨b, o, none⟩) : Rd cells sz w' lo hi v l := by
  obtain ⟨A, c, hv, hc, hm, h⟩ := h
  refine ⟨A, c, hv, hc, hm, fun hn => ?_⟩
  obtain ⟨b, off, hA, hb1, hb2, h⟩ := h hn
  exact ⟨b, off, hA, hb1, hb2, fun k x hx j u hu => (hk _ _ hb1 hb2).trans (h k x hx j u hu)⟩
theorem Rd.below {B : Nat} (h : Rd cells sz w lo hi v l) (hb : Below B w w') (hB : hi ≤ B) : Rd cells sz w' lo hi v l :=
  h.keep fun b o _ h2 => hb.cell (p := ⟨b, o, none⟩) (Nat.lt_of_lt_of_le h2 hB)
/-- only block g may have turned -/
theorem Rd.grown {row : Option Nat} (h : Rd cells sz w lo hi v l) (hg : w.grownBy w' row) (hB : hi ≤ w.heap.size) (hr : ∀ g, row = some g → g < lo ∨ hi ≤ g) : Rd cells sz w' lo hi v l :=
  h.keep fun b o h1 h2 => World.cell?_of_block (a := ⟨b, o, none⟩) (hg.block b (by omega) (fun e => by have := hr _ e.symm; omega))
theorem Rd.nil_ : Rd cells sz w lo hi (.slice none 0 0) [] := ⟨none, 0, rfl, Nat.le_refl _, Nat.zero_le _, fun h => absurd h (by simp)⟩

theorem Rd.empty {A : Option Addr} {c : Nat} (hc : c ≤ maxLen) : Rd cells sz w lo hi (.slice A 0 c) [] := ⟨A, c, rfl, Nat.zero_le _, hc, fun h => absurd h (by simp)⟩
theorem Ow.rd (h : Ow cells sz E w lo hi v l) : Rd cells sz w lo hi v l := by
  obtain ⟨A, c, hv, hc, hm, h⟩ := h
  refine ⟨A, c, hv, hc, hm, fun hn => ?_⟩
  obtain ⟨b, off, cur, hA, hb1, hb2, hh, h⟩ := h hn
  refine ⟨b, off, hA, hb1, hb2, fun k x hx j u hu => ?_⟩
  rw [cell_of_row w b _ cur E (0, 0) hh]
  exact h k x hx j u hu
theorem Rd.form (h : Rd cells sz w lo hi v l) : ∃ A n c, v = .slice A n c ∧ Hid (n = l.length) ∧ n ≤ c ∧ c ≤ 9223372036854775807 := by
  obtain ⟨A, c, rfl, hc, hm, _⟩ := h
  exact ⟨A, _, c, rfl, rfl, hc, by unfold maxLen at hm; omega⟩
theorem Rd.get {A : Option Addr} {n c k : Nat} (h : Rd cells sz w lo hi (.slice A n c) l) (hk : k < n) {B : Nat} {wr : World} (hb : Below B w wr) (hB : hi ≤ B) :
    ∃ b off x, A = some ⟨b, off, none⟩ ∧ Hid (l[k]? = some x) ∧ lo ≤ b ∧ b < hi ∧ ∀ j u, (cells x)[j]? = some u → wr.cell? ⟨b, off + k * sz + j, none⟩ = some u := by
  obtain ⟨A', c', hv, hc, hm, h⟩ := h
  injection hv with e1 e2 e3
  subst e1; subst e2
  obtain ⟨b, off, hA, h1, h2, h3⟩ := h (by omega)
  have hx : l[k]? = some (l[k]'hk) := List.getElem?_eq_getElem _
  exact ⟨b, off, _, hA, hx, h1, h2, fun j u hu => (hb.cell (p := ⟨b, _, none⟩) (Nat.lt_of_lt_of_le h2 hB)).trans (h3 k _ hx j u hu)⟩
theorem Ow.form (h : Ow cells sz E w lo hi v l) : ∃ A n c, v = .slice A n c ∧ Hid (n = l.length) ∧ n ≤ c ∧ c ≤ 9223372036854775807 := h.rd.form
theorem Ow.mono (h : Ow cells sz E w lo hi v l) (h1 : lo' ≤ lo) (h2 : hi ≤ hi') : Ow cells sz E w lo' hi' v l := by
  obtain ⟨A, c, hv, hc, hm, h⟩ := h
  refine ⟨A, c, hv, hc, hm, fun hn => ?_⟩
  obtain ⟨b, off, cur, hA, hb1, hb2, hh, h⟩ := h hn
  exact ⟨b, off, cur, hA, by omega, by omega, hh, h⟩
theorem Ow.keep (h : Ow cells sz E w lo hi v l) (hk : ∀ b, lo ≤ b → b < hi → b < w.heap.size → w'.heap[b]? = w.heap[b]?) : Ow cells sz E w' lo hi v l := by
  obtain ⟨A, c, hv, hc, hm, h⟩ := h
  refine ⟨A, c, hv, hc, hm, fun hn => ?_⟩
  obtain ⟨b, off, cur, hA, hb1, hb2, hh, h⟩ := h hn
  exact ⟨b, off, cur, hA, hb1, hb2, (hk b hb1 hb2 (Array.getElem?_eq_some_iff.1 hh).1).trans hh, h⟩
theorem Ow.below {B : Nat} (h : Ow cells sz E w lo hi v l) (hb : Below B w w') (hB : hi ≤ B) : Ow cells sz E w' lo hi v l := h.keep fun b _ h2 _ => hb.block b (by omega)
theorem Ow.nil_ : Ow cells sz E w lo hi (.slice none 0 0) [] := ⟨none, 0, rfl, Nat.le_refl _, Nat.zero_le _, fun h => absurd h (by simp)⟩

/-- the block that turned is v's own -/
theorem Ow.turned_in (h : Ow cells sz E w lo hi v l) (ht : Turned w w' v l.length) : ∃ row, w.grownBy w' row ∧ ∀ g, row = some g → lo ≤ g ∧ g < hi ∧ ∃ cur, w.heap[g]? = some (.cells cur E (0, 0)) := by
  obtain ⟨row, hg, hr⟩ := ht
  refine ⟨row, hg, fun g e => ?_⟩
  obtain ⟨hn, ho⟩ := hr g e
  obtain ⟨A, c, rfl, _, _, h⟩ := h
  obtain ⟨b, off, cur, rfl, hb1, hb2, hh, _⟩ := h hn
  simp [Value.ownBlock] at ho
  subst ho
  exact ⟨hb1, hb2, cur, hh⟩
section
variable {β : Type} {cells2 : β → List Value} {sz2 : Nat} {E2 : TypeId} {lo2 hi2 : Nat} {v2 : Value} {l2 : List β}
theorem Rd.turned (hr : Rd cells2 sz2 w lo2 hi2 v2 l2) (h : Ow cells sz E w lo hi v l) (ht : Turned w w' v l.length) (hs : hi2 ≤ lo ∨ hi ≤ lo2) (hh : hi2 ≤ w.heap.size) : Rd cells2 sz2 w' lo2 hi2 v2 l2 := by
  obtain ⟨row, hg, hw⟩ := h.turned_in ht
  exact hr.grown hg hh fun g e => by have := hw g e; omega
theorem Ow.turned (hr : Ow cells2 sz2 E2 w lo2 hi2 v2 l2) (h : Ow cells sz E w lo hi v l) (ht : Turned w w' v l.length) (hs : hi2 ≤ lo ∨ hi ≤ lo2) : Ow cells2 sz2 E2 w' lo2 hi2 v2 l2 := by
  obtain ⟨row, hg, hw⟩ := h.turned_in ht
  exact hr.keep fun b h1 h2 h3 => hg.block b h3 (fun e => by have := hw b e.symm; omega)
theorem Ow.turned_type (hr : Ow cells2 sz2 E2 w lo2 hi2 v2 l2) (h : Ow cells sz E w lo hi v l) (ht : Turned w w' v l.length) (hE : E ≠ E2) : Ow cells2 sz2 E2 w' lo2 hi2 v2 l2 := by
  obtain ⟨row, hg, hw⟩ := h.turned_in ht
  obtain ⟨A, c, hv, hc, hm, hr⟩ := hr
  refine ⟨A, c, hv, hc, hm, fun hn => ?_⟩
  obtain ⟨b, off, cur, hA, hb1, hb2, hh, hx⟩ := hr hn
  refine ⟨b, off, cur, hA, hb1, hb2, (hg.block b (Array.getElem?_eq_some_iff.1 hh).1 (fun e => ?_)).trans hh, hx⟩
  obtain ⟨_, _, cur', hh'⟩ := hw b e.symm
  rw [hh] at hh'
  injection hh' with hh'
  injection hh' with _ h4
  exact hE h4.symm
theorem Below.turned {B : Nat} {W : World} (hb : Below B W w) (h : Ow cells sz E w lo hi v l) (ht : Turned w w' v l.length) (hB : B ≤ lo) (hh : B ≤ w.heap.size) : Below B W w' := by
  obtain ⟨row, hg, hw⟩ := h.turned_in ht
  exact hb.grown hg hh fun g e => by have := hw g e; omega
theorem Turned.size {n : Nat} (ht : Turned w w' v n) : w.heap.size ≤ w'.heap.size := by
  obtain ⟨row, hg, _⟩ := ht
  exact hg.size
theorem grown_trans {w1 : World} {row : Option Nat} (h : w.grownBy w1 row) (k : w1.grownBy w' row) : w.grownBy w' row :=
  ⟨k.os.trans h.os, k.tape.trans h.tape, k.output.trans h.output, Nat.le_trans h.size k.size, fun i hi hne => (k.block i (Nat.lt_of_lt_of_le hi h.size) hne).trans (h.block i hi hne)⟩
theorem Turned.refl (w : World) (v : Value) (n : Nat) : Turned w w v n := ⟨none, World.grownBy.refl w _, fun g e => by cases e⟩
end

theorem flat_get (hs : ∀ x, (cells x).length = sz) : ∀ (l : List α) (k : Nat) (x : α) (j : Nat) (u : Value), l[k]? = some x → (cells x)[j]? = some u → (l.flatMap cells)[k * sz + j]? = some u
  | [], k, x, j, u, h, _ => by simp at h
  | y :: l, 0, x, j, u, h, hu => by
    simp only [List.getElem?_cons_zero, Option.some.injEq] at h
    subst h
    obtain ⟨hj, _⟩ := List.getElem?_eq_some_iff.1 hu
    simp only [List.flatMap_cons, Nat.zero_mul, Nat.zero_add]
    rw [List.getElem?_append_left hj]; exact hu
  | y :: l, k + 1, x, j, u, h, hu => by
    simp only [List.getElem?_cons_succ] at h
    have ih := flat_get hs l k x j u h hu
    simp only [List.flatMap_cons]
    rw [List.getElem?_append_right (by rw [hs]; rw [Nat.succ_mul]; omega), hs, show (k + 1) * sz + j - sz = k * sz + j by rw [Nat.succ_mul]; omega]
    exact ih
theorem flat_len (hs : ∀ x, (cells x).length = sz) : ∀ l : List α, (l.flatMap cells).length = l.length * sz
  | [] => by simp
  | y :: l => by rw [List.flatMap_cons, List.length_append, hs, flat_len hs l, List.length_cons, Nat.succ_mul]; omega

/-- what append and make leave, as a list of elements -/
theorem Ow.of_own (hs : ∀ x, (cells x).length = sz) {n : Nat} {xs : List Value} (h : w.ownsRow lo E sz v n xs) (hx : xs = l.flatMap cells) (hn : n = l.length) : Ow cells sz E w lo w.heap.size v l := by
  subst hx; subst hn
  obtain ⟨h1, ⟨rfl, h0⟩ | ⟨g, cap, cur, rfl, hb, hh, hc, hm, hz, ht⟩⟩ := h
  · have : l = [] := List.eq_nil_of_length_eq_zero h0
    subst this; exact Ow.nil_
  · refine ⟨_, cap, rfl, hc, hm, fun _ => ⟨g, 0, cur, rfl, hb, (Array.getElem?_eq_some_iff.1 hh).1, hh, fun k x hx j u hu => ?_⟩⟩
    have hg := flat_get hs l k x j u hx hu
    rw [← ht, List.getElem?_take] at hg
    split at hg
    · rw [Nat.zero_add]; simpa using hg
    · cases hg
end

/-! ### A row of the call's own, filled element by element -/

/-- stores of one-cell values, one behind the other -/
def setL (w : World) (g off : Nat) : List Value → World
  | [] => w
  | v :: vs => setL (w.setCell ⟨g, off, none⟩ v) g (off + 1) vs

theorem setL_size : ∀ (vs : List Value) (w : World) (g off : Nat), (setL w g off vs).heap.size = w.heap.size
  | [], _, _, _ => rfl
  | v :: vs, w, g, off => by unfold setL; rw [setL_size vs]; simp [World.setCell]
theorem setL_other : ∀ (vs : List Value) (w : World) (g off k : Nat), k ≠ g → (setL w g off vs).heap[k]? = w.heap[k]?
  | [], _, _, _, _, _ => rfl
  | v :: vs, w, g, off, k, h => by unfold setL; rw [setL_other vs _ _ _ _ h]; exact Below.heap_setCell _ _ _ _ h
theorem setL_frame : ∀ (vs : List Value) (w : World) (g off : Nat), (setL w g off vs).os = w.os ∧ (setL w g off vs).tape = w.tape ∧ (setL w g off vs).output = w.output
  | [], _, _, _ => ⟨rfl, rfl, rfl⟩
  | v :: vs, w, g, off => by unfold setL; exact setL_frame vs _ _ _
theorem setL_grown (vs : List Value) (w : World) (g off : Nat) : w.grownBy (setL w g off vs) (some g) :=
  ⟨(setL_frame vs w g off).1, (setL_frame vs w g off).2.1, (setL_frame vs w g off).2.2, Nat.le_of_eq (setL_size vs w g off).symm, fun k _ hk => setL_other vs w g off k (fun e => hk (by rw [e]))⟩
theorem setL_below {B : Nat} {a w : World} (h : Below B a w) (vs : List Value) (g off : Nat) (hg : B ≤ g) : Below B a (setL w g off vs) :=
  h.trans ⟨(setL_frame vs w g off).1, (setL_frame vs w g off).2.1, (setL_frame vs w g off).2.2, Nat.le_of_eq (setL_size vs w g off).symm, fun k hk => setL_other vs w g off k (by omega)⟩
theorem setL_row (E : TypeId) : ∀ (vs : List Value) (w : World) (g off : Nat) (cur : Array Value), w.heap[g]? = some (.cells cur E (0, 0)) → off + vs.length ≤ cur.size →
    ∃ cur', (setL w g off vs).heap[g]? = some (.cells cur' E (0, 0)) ∧ cur'.size = cur.size ∧ (∀ j u, vs[j]? = some u → cur'[off + j]? = some u) ∧ ∀ j, j < off ∨ off + vs.length ≤ j → cur'[j]? = cur[j]?
  | [], w, g, off, cur, h, _ => ⟨cur, h, rfl, fun j u hu => by simp at hu, fun _ _ => rfl⟩
  | v :: vs, w, g, off, cur, h, hl => by
    simp only [List.length_cons] at hl
    have h1 : (w.setCell ⟨g, off, none⟩ v).heap[g]? = some (.cells (cur.setIfInBounds off v) E (0, 0)) := by simp [World.setCell, Array.getElem?_modify, h]
    obtain ⟨cur', e1, e2, e3, e4⟩ := setL_row E vs _ g (off + 1) _ h1 (by simp; omega)
    refine ⟨cur', e1, by simpa using e2, fun j u hu => ?_, fun j hj => ?_⟩
    · cases j with
      | zero =>
        simp only [List.getElem?_cons_zero, Option.some.injEq] at hu
        subst hu
        rw [Nat.add_zero, e4 off (by omega), Array.getElem?_setIfInBounds, if_pos rfl, if_pos (by omega)]
      | succ j =>
        simp only [List.getElem?_cons_succ] at hu
        have := e3 j u hu
        rwa [show off + (j + 1) = off + 1 + j by omega]
    · simp only [List.length_cons] at hj
      rw [e4 j (by omega), Array.getElem?_setIfInBounds, if_neg (by omega)]

/-- the first l.length elements of the row of n at (g, off) are l; nothing of the block is frozen -/
def Part {α : Type} (cells : α → List Value) (sz : Nat) (E : TypeId) (w : World) (g off n : Nat) (l : List α) : Prop :=
  ∃ cur : Array Value, w.heap[g]? = some (.cells cur E (0, 0)) ∧ off + n * sz ≤ cur.size ∧ ∀ k x, l[k]? = some x → ∀ j u, (cells x)[j]? = some u → cur[off + k * sz + j]? = some u

section
variable {α : Type} {cells : α → List Value} {sz : Nat} {E : TypeId} {w w' : World} {g off n : Nat} {l : List α}
theorem Part.start (cur : Array Value) (h : w.heap[g]? = some (.cells cur E (0, 0))) (hs : off + n * sz ≤ cur.size) : Part cells sz E w g off n [] :=
  ⟨cur, h, hs, fun k x hx => by simp at hx⟩
theorem Part.block (h : Part cells sz E w g off n l) (hb : w'.heap[g]? = w.heap[g]?) : Part cells sz E w' g off n l := by
  obtain ⟨cur, h1, h2⟩ := h
  exact ⟨cur, hb.trans h1, h2⟩
theorem Part.lt (h : Part cells sz E w g off n l) : g < w.heap.size := by
  obtain ⟨cur, h1, h2⟩ := h
  exact (Array.getElem?_eq_some_iff.1 h1).1
theorem Part.below (h : Part cells sz E w g off n l) (hb : Below w.heap.size w w') : Part cells sz E w' g off n l := h.block (hb.block g h.lt)
theorem Part.frozen (h : Part cells sz E w g off n l) (o : Nat) : w.frozen? ⟨g, o, none⟩ = false := by
  obtain ⟨cur, h1, h2⟩ := h
  exact frozen_of_row w g o cur E h1
theorem Part.cell (h : Part cells sz E w g off n l) {i j : Nat} (hi : i < n) (hj : j < sz) : ∃ u, w.cell? ⟨g, off + i * sz + j, none⟩ = some u := by
  obtain ⟨cur, h1, h2, _⟩ := h
  have h3 : (i + 1) * sz ≤ n * sz := Nat.mul_le_mul_right _ hi
  rw [Nat.succ_mul] at h3
  rw [cell_of_row w g _ cur E (0, 0) h1]
  exact ⟨_, Array.getElem?_eq_getElem (by omega)⟩
theorem Part.cell1 (h : Part cells 1 E w g 0 n l) {i : Nat} (hi : i < n) : ∃ u, w.cell? ⟨g, i, none⟩ = some u := by
  simpa using h.cell hi (show 0 < 1 by omega)
theorem Part.cell2 (h : Part cells 2 E w g 0 n l) {i : Nat} (hi : i < n) : (∃ u, w.cell? ⟨g, i * 2, none⟩ = some u) ∧ (∃ u, w.cell? ⟨g, i * 2 + 1, none⟩ = some u) :=
  ⟨by simpa using h.cell hi (show 0 < 2 by omega), by simpa using h.cell hi (show 1 < 2 by omega)⟩
theorem Part.cell3 (h : Part cells 3 E w g 0 n l) {i : Nat} (hi : i < n) : (∃ u, w.cell? ⟨g, i * 3, none⟩ = some u) ∧ (∃ u, w.cell? ⟨g, i * 3 + 1, none⟩ = some u) ∧ (∃ u, w.cell? ⟨g, i * 3 + 2, none⟩ = some u) :=
  ⟨by simpa using h.cell hi (show 0 < 3 by omega), by simpa using h.cell hi (show 1 < 3 by omega), by simpa using h.cell hi (show 2 < 3 by omega)⟩
theorem Part.cell2o (h : Part cells 2 E w g off n l) {i : Nat} (hi : i < n) : (∃ u, w.cell? ⟨g, off + i * 2, none⟩ = some u) ∧ (∃ u, w.cell? ⟨g, off + i * 2 + 1, none⟩ = some u) :=
  ⟨by simpa using h.cell hi (show 0 < 2 by omega), by simpa using h.cell hi (show 1 < 2 by omega)⟩
theorem Part.cell3o (h : Part cells 3 E w g off n l) {i : Nat} (hi : i < n) : (∃ u, w.cell? ⟨g, off + i * 3, none⟩ = some u) ∧ (∃ u, w.cell? ⟨g, off + i * 3 + 1, none⟩ = some u) ∧ (∃ u, w.cell? ⟨g, off + i * 3 + 2, none⟩ = some u) :=
  ⟨by simpa using h.cell hi (show 0 < 3 by omega), by simpa using h.cell hi (show 1 < 3 by omega), by simpa using h.cell hi (show 2 < 3 by omega)⟩
theorem Part.cell1o (h : Part cells 1 E w g off n l) {i : Nat} (hi : i < n) : ∃ u, w.cell? ⟨g, off + i, none⟩ = some u := by
  simpa using h.cell hi (show 0 < 1 by omega)
theorem Part.set (h : Part cells sz E w g off n l) (hl : l.length < n) (x : α) (vs : List Value) (hx : cells x = vs) (hvs : vs.length = sz) (hs : ∀ y, (cells y).length = sz) {p : Nat} (hp : p = off + l.length * sz) :
    Part cells sz E (setL w g p vs) g off n (l ++ [x]) := by
  subst hp
  obtain ⟨cur, h1, h2, h3⟩ := h
  have h4 : (l.length + 1) * sz ≤ n * sz := Nat.mul_le_mul_right _ hl
  rw [Nat.succ_mul] at h4
  obtain ⟨cur', e1, e2, e3, e4⟩ := setL_row E vs w g (off + l.length * sz) cur h1 (by omega)
  refine ⟨cur', e1, by omega, fun k y hy j u hu => ?_⟩
  have hj : j < sz := by rw [← hs y]; exact (List.getElem?_eq_some_iff.1 hu).1
  by_cases hk : k < l.length
  · rw [List.getElem?_append_left hk] at hy
    have h5 : (k + 1) * sz ≤ l.length * sz := Nat.mul_le_mul_right _ hk
    rw [Nat.succ_mul] at h5
    rw [e4 _ (by omega)]
    exact h3 k y hy j u hu
  · have hk2 : k = l.length := by
      have := (List.getElem?_eq_some_iff.1 hy).1
      simp at this; omega
    subst hk2
    simp at hy
    subst hy
    rw [hx] at hu
    exact e3 j u hu
theorem Part.ow (h : Part cells sz E w g off n l) (hn : l.length = n) {lo hi c : Nat} (hlo : lo ≤ g) (hhi : g < hi) (hc : n ≤ c) (hm : c ≤ maxLen) : Ow cells sz E w lo hi (.slice (some ⟨g, off, none⟩) n c) l := by
  obtain ⟨cur, h1, h2, h3⟩ := h
  exact ⟨_, c, by rw [hn], by omega, hm, fun _ => ⟨g, off, cur, rfl, hlo, hhi, h1, h3⟩⟩
/-- an own row may be filled anew -/
theorem Ow.part {lo hi : Nat} {A : Option Addr} {c : Nat} (hs : ∀ y, (cells y).length = sz) (hsz : 0 < sz) (h : Ow cells sz E w lo hi (.slice A n c) l) (hn : 0 < n) :
    ∃ g off, A = some ⟨g, off, none⟩ ∧ lo ≤ g ∧ g < hi ∧ Part cells sz E w g off n ([] : List α) := by
  obtain ⟨A', c', hv, hc, hm, h⟩ := h
  injection hv with e1 e2 e3
  subst e1; subst e2
  obtain ⟨b, off, cur, hA, hb, hb2, hh, hx⟩ := h hn
  refine ⟨b, off, hA, hb, hb2, Part.start cur hh ?_⟩
  have hlast : l[l.length - 1]? = some (l[l.length - 1]'(by omega)) := List.getElem?_eq_getElem _
  have hj : (cells (l[l.length - 1]'(by omega)))[sz - 1]? = some ((cells (l[l.length - 1]'(by omega)))[sz - 1]'(by rw [hs]; omega)) := List.getElem?_eq_getElem _
  have := (Array.getElem?_eq_some_iff.1 (hx _ _ hlast _ _ hj)).1
  have e : l.length * sz = (l.length - 1) * sz + sz := by rw [← Nat.succ_mul]; congr 1; omega
  omega
end

/-- 'make([]T, n)': a new block of n zero elements -/
theorem make_new {P : Program} {t e : TypeId} {i : TypeInfo} {z : Value} (ht : P.underlying t = some (.slice e)) (hi : P.info? e = some i) (hz : i.zero = some z) (n : Nat) (hn : n ≤ 1048576) (hb : i.bytes ≤ 65536) (W : World) :
    (Instr.makeSlice t (.int .i64 (n : Int)) (.int .i64 (n : Int))).run P W = .ok (.slice (some ⟨W.heap.size, 0, none⟩) n n) (W.alloc (.cells (madeCells z.cells (n * i.size)) e)) := by
  have h1 : i.bytes * n ≤ 65536 * 1048576 := Nat.mul_le_mul hb hn
  have h2 : (i.bytes : Int) * (n : Int) ≤ 281474976710656 := by rw [← Int.natCast_mul]; omega
  have hr := run_make (P := P) W t e i z ht hi hz .i64 .i64 n n (by omega) (by omega) h2 (by omega)
  simpa only [Int.toNat_natCast] using hr
theorem heap_made (W : World) (z : Array Value) (n : Nat) (e : TypeId) : ∃ cur, (W.alloc (.cells (madeCells z n) e)).heap[W.heap.size]? = some (.cells cur e (0, 0)) ∧ cur.size = n :=
  ⟨_, heap_alloc_new W _, size_madeCells _ _⟩

/-! ### append onto a row of the call's own -/
theorem flat_inv {α : Type} {cells : α → List Value} {sz : Nat} (hs : ∀ x, (cells x).length = sz) : ∀ (l : List α) (j : Nat) (u : Value), (l.flatMap cells)[j]? = some u → ∃ k x i, l[k]? = some x ∧ (cells x)[i]? = some u ∧ j = k * sz + i
  | [], j, u, h => by simp at h
  | y :: l, j, u, h => by
    simp only [List.flatMap_cons] at h
    by_cases hj : j < sz
    · rw [List.getElem?_append_left (by rw [hs]; exact hj)] at h
      exact ⟨0, y, j, by simp, h, by omega⟩
    · rw [List.getElem?_append_right (by rw [hs]; omega), hs] at h
      obtain ⟨k, x, i, h1, h2, h3⟩ := flat_inv hs l (j - sz) u h
      exact ⟨k + 1, x, i, by simpa using h1, h2, by rw [Nat.succ_mul]; omega⟩

theorem run_app_rd {α : Type} {cells : α → List Value} {P : Program} (w : World) (base : Nat) (t ty e : TypeId) (i : TypeInfo) (z : Value) (sz bytes : Nat) (ht : P.underlying t = some (.slice e)) (hi : P.info? e = some i) (hz : i.zero = some z)
    (hsize : i.size = sz) (hby : i.bytes = bytes) (hzs : z.cells.size = sz) (hsz : 0 < sz) (hcl : ∀ x, (cells x).length = sz) (h1 : ∀ y u, u ∈ cells y → u.oneCell' = true)
    (v : Value) (n : Nat) (xs : List Value) (hown : w.ownsRow base e sz v n xs) {lo hi' m c : Nat} {A : Option Addr} {l : List α} (hr : Rd cells sz w lo hi' (.slice A m c) l)
    (h63 : n + m ≤ maxLen) (hbytes : (n + m) * bytes ≤ 140737488355328) (hbase : base ≤ w.heap.size) :
    ∃ v' w', (Builtin.append_ #[t, t] ty #[v, .slice A m c]).run P w = .ok v' w' ∧ w'.ownsRow base e sz v' (n + m) (xs ++ l.flatMap cells) ∧ w.grownBy w' v.ownBlock := by
  obtain ⟨A', c', hv, hc, hm, hcell⟩ := hr
  injection hv with e1 e2 e3
  subst e1; subst e2; subst e3
  rcases A with _ | ad
  · have hl : l = [] := by
      rcases Nat.eq_zero_or_pos l.length with h0 | h0
      · exact List.eq_nil_of_length_eq_zero h0
      · obtain ⟨b, off, hA, _⟩ := hcell h0
        cases hA
    subst hl
    refine ⟨v, w, ?_, by simpa using hown, World.grownBy.refl w _⟩
    rcases hown.2 with ⟨rfl, rfl⟩ | ⟨g, cap, cur, rfl, _, _, hnc, _⟩
    · simp [Builtin.append_, run_underlying ht, sizeOf, typeInfo, hi, Builtin.lenOf, Builtin.firstCells]
    · simp [Builtin.append_, run_underlying ht, sizeOf, typeInfo, hi, Builtin.lenOf, Builtin.firstCells, hnc, storeCells]
  · have hnews : ∀ j u, (l.flatMap cells)[j]? = some u → w.cell? (ad.add j) = some u := by
      intro j u hu
      obtain ⟨k, x, i', hk, hx, rfl⟩ := flat_inv hcl l j u hu
      have hlt := (List.getElem?_eq_some_iff.1 hk).1
      obtain ⟨b, off, hA, _, _, h⟩ := hcell (by omega)
      injection hA with hA
      subst hA
      rw [Go.WideShapes.add_plain, ← Nat.add_assoc]
      exact h k x hk i' u hx
    obtain ⟨v', w', hrun, h2, h3, _⟩ := run_append_own_at (P := P) w base t ty e i z sz bytes ht hi hz hsize hby hzs hsz v n xs hown ad l.length c (l.flatMap cells) (flat_len hcl l) hnews
      (fun u hu => by obtain ⟨y, _, hy⟩ := List.mem_flatMap.1 hu; exact h1 y u hy) h63 hbytes hbase
    exact ⟨v', w', hrun, h2, h3⟩

theorem wp_app_rd {α : Type} {cells : α → List Value} {P : Program} {w : World} {ops : Array Oper} {rest : List Oper} {o : Oper} {a : Act} {Q : Exit → Act → World → Prop} (hgd : o.guard = none) (s x : Operand) (t : TypeId)
    (ho : o.op = .call { callee := .builtin .append, args := #[s, x], argTypes := #[t, t] })
    (base : Nat) (e : TypeId) (i : TypeInfo) (z : Value) (sz bytes : Nat) (ht : P.underlying t = some (.slice e)) (hi : P.info? e = some i) (hz : i.zero = some z)
    (hsize : i.size = sz) (hby : i.bytes = bytes) (hzs : z.cells.size = sz) (hsz : 0 < sz) (hcl : ∀ x, (cells x).length = sz) (h1 : ∀ y u, u ∈ cells y → u.oneCell' = true)
    (v : Value) (n : Nat) (xs : List Value) (hs : a.eval s = v) (hown : w.ownsRow base e sz v n xs) {lo hi' m c : Nat} {A : Option Addr} {l : List α} (hx : a.eval x = .slice A m c) (hr : Rd cells sz w lo hi' (.slice A m c) l)
    (h63 : n + m ≤ maxLen) (hbytes : (n + m) * bytes ≤ 140737488355328) (hbase : base ≤ w.heap.size)
    (h : ∀ v' w', w'.ownsRow base e sz v' (n + m) (xs ++ l.flatMap cells) → w.grownBy w' v.ownBlock → wpList P ops Q rest (a.put o.dst v') w') : wpList P ops Q (o :: rest) a w := by
  refine wpList_plain hgd fun K hK => ?_
  obtain ⟨v', w', hrun, h2, h3⟩ := run_app_rd (P := P) w base t o.type e i z sz bytes ht hi hz hsize hby hzs hsz hcl h1 v n xs hown hr h63 hbytes hbase
  unfold Oper.wp execOp
  simp only [ho, resolve, invoke, builtin, Sem.run_bind, Sem.run_pure, Result.andThen_ok, List.map_toArray, List.map_cons, List.map_nil, hs, hx, hrun]
  exact hK _ _ (h v' w' h2 h3)

/-! ### A closure that changes one element in place -/
/-- the sz cells at (b, o), which held xs, hold ys; the block is else as it was; no other old block has turned -/
def Upd (E : TypeId) (sz : Nat) (w w' : World) (b o : Nat) (xs ys : List Value) : Prop :=
  w.grownBy w' (some b) ∧ ∀ cur : Array Value, w.heap[b]? = some (.cells cur E (0, 0)) → o + sz ≤ cur.size → (∀ j u, xs[j]? = some u → cur[o + j]? = some u) →
    ∃ cur' : Array Value, w'.heap[b]? = some (.cells cur' E (0, 0)) ∧ cur'.size = cur.size ∧ (∀ j u, ys[j]? = some u → cur'[o + j]? = some u) ∧ ∀ j, j < o ∨ o + sz ≤ j → cur'[j]? = cur[j]?

theorem Upd.drew {E : TypeId} {sz : Nat} {w w' : World} {b o : Nat} {xs ys : List Value} (h : Upd E sz w w' b o xs ys) : Upd E sz w w'.drew b o xs ys :=
  ⟨⟨h.1.os, h.1.tape, h.1.output, h.1.size, h.1.block⟩, h.2⟩
theorem Upd.of_setL {E : TypeId} {sz : Nat} {w : World} {b o : Nat} {xs ys ys' : List Value} (s : Nat) (hx : xs.length = sz) (he : ys' = xs.take s ++ (ys ++ xs.drop (s + ys.length))) (hle : s + ys.length ≤ sz) : Upd E sz w (setL w b (o + s) ys) b o xs ys' := by
  refine ⟨setL_grown ys w b (o + s), fun cur hh hsz hc => ?_⟩
  obtain ⟨cur', e1, e2, e3, e4⟩ := setL_row E ys w b (o + s) cur hh (by omega)
  refine ⟨cur', e1, e2, fun j u hu => ?_, fun j hj => e4 j (by omega)⟩
  have htl : (xs.take s).length = s := by rw [List.length_take]; omega
  subst he
  by_cases h1 : j < s
  · rw [List.getElem?_append_left (by omega), List.getElem?_take, if_pos h1] at hu
    rw [e4 _ (by omega)]
    exact hc j u hu
  · rw [List.getElem?_append_right (by omega), htl] at hu
    by_cases h2 : j - s < ys.length
    · rw [List.getElem?_append_left h2] at hu
      have := e3 _ u hu
      rwa [show o + s + (j - s) = o + j by omega] at this
    · rw [List.getElem?_append_right (by omega), List.getElem?_drop, show s + ys.length + (j - s - ys.length) = j by omega] at hu
      rw [e4 _ (by omega)]
      exact hc j u hu

theorem Ow.upd {α : Type} {cells : α → List Value} {sz : Nat} {E : TypeId} {w w' : World} {lo hi b off n c i : Nat} {l : List α} {t t' : α} (hs : ∀ y, (cells y).length = sz) (hsz0 : 0 < sz) (h : Ow cells sz E w lo hi (.slice (some ⟨b, off, none⟩) n c) l)
    (hi' : l[i]? = some t) (hu : Upd E sz w w' b (off + i * sz) (cells t) (cells t')) : Ow cells sz E w' lo hi (.slice (some ⟨b, off, none⟩) n c) (l.set i t') := by
  obtain ⟨A, c', hv, hc, hm, h⟩ := h
  injection hv with e1 e2 e3
  subst e1; subst e2; subst e3
  refine ⟨_, c, by rw [List.length_set], by rw [List.length_set]; exact hc, hm, fun hn => ?_⟩
  rw [List.length_set] at hn
  obtain ⟨b', off', cur, hA, hb1, hb2, hh, hx⟩ := h hn
  injection hA with hA
  injection hA with e1 e2
  subst e1; subst e2
  obtain ⟨hlt, _⟩ := List.getElem?_eq_some_iff.1 hi'
  have hsz : off + i * sz + sz ≤ cur.size := by
    have hj : (cells t)[sz - 1]? = some ((cells t)[sz - 1]'(by rw [hs]; omega)) := List.getElem?_eq_getElem _
    have := (Array.getElem?_eq_some_iff.1 (hx i t hi' (sz - 1) _ hj)).1
    omega
  obtain ⟨cur', e1, e2, e3, e4⟩ := hu.2 cur hh hsz (fun j u hu => hx i t hi' j u hu)
  refine ⟨b, off, cur', rfl, hb1, hb2, e1, fun k x hk j u hu => ?_⟩
  have hj : j < sz := by rw [← hs x]; exact (List.getElem?_eq_some_iff.1 hu).1
  rw [List.getElem?_set] at hk
  split at hk
  · rename_i e
    subst e
    injection hk with hk
    subst hk
    exact e3 j u hu
  · rename_i hne
    rw [e4 _ (by
      rcases Nat.lt_or_ge k i with hki | hki
      · have : (k + 1) * sz ≤ i * sz := Nat.mul_le_mul_right _ hki
        rw [Nat.succ_mul] at this
        omega
      · have : (i + 1) * sz ≤ k * sz := Nat.mul_le_mul_right _ (by omega)
        rw [Nat.succ_mul] at this
        omega)]
    exact hx k x hk j u hu

/-! ### Arguments opened: a slice of structs of one-cell fields, a slice of one-cell elements -/
section
variable {H : Type} {enc : TypeId × Value → H} {P : Program} {w : World} {base : Nat} {spare : Nat → Bool} {held : Bool}
theorem rd_of_cells {α : Type} [Inhabited α] {cells : α → List Value} {sz : Nat} (hsz : 0 < sz) (hlen : ∀ x, (cells x).length = sz) {a : Addr} {len cap : Nat} (hl : len ≤ cap) (hm : cap ≤ maxLen)
    (h : ∀ i, i < len → ∃ x : α, ∀ j u, (cells x)[j]? = some u → w.cell? (a.add (i * sz + j)) = some u) : ∃ l : List α, Rd cells sz w 0 w.heap.size (.slice (some a) len cap) l := by
  obtain ⟨f, hf⟩ := choose_lt h
  refine ⟨(List.range len).map f, some a, cap, by simp, by simpa using hl, hm, fun hn => ?_⟩
  have hn' : 0 < len := by simpa using hn
  obtain ⟨b, off, spot⟩ := a
  have h0 : ∀ j u, (cells (f 0))[j]? = some u → w.cell? ((⟨b, off, spot⟩ : Addr).add (0 * sz + j)) = some u := hf 0 hn'
  have hc0 : (cells (f 0))[0]? = some ((cells (f 0))[0]'(by rw [hlen]; exact hsz)) := List.getElem?_eq_getElem _
  have h00 := h0 0 _ hc0
  have hspot : spot = none := by simpa [Addr.add] using World.cell?_spot h00
  subst hspot
  refine ⟨b, off, rfl, Nat.zero_le _, by simpa [Addr.add] using World.block_lt_of_cell? w _ h00, fun k x hx j u hu => ?_⟩
  simp only [List.getElem?_map, Option.map_eq_some_iff] at hx
  obtain ⟨i, hi, rfl⟩ := hx
  obtain ⟨hlt, hi'⟩ := List.getElem?_eq_some_iff.1 hi
  simp only [List.getElem_range] at hi'
  subst hi'
  have := hf k (by simpa using hlt) j u hu
  rwa [Go.WideShapes.add_plain, ← Nat.add_assoc] at this

theorem open_rd {α : Type} [Inhabited α] {cells : α → List Value} {sz : Nat} (hsz : 0 < sz) (hlen : ∀ x, (cells x).length = sz) {t e : TypeId} {fs : Array Field} {v : Value} {d : DataW H} {p : List MemPlace} {r : Reach} {b0 : Nat} (ht : P.underlying t = some (.slice e)) (he : P.underlying e = some (.struct fs))
    (hone : oneCellFields P fs = true) (hC : P.cellsOf e = fs.size) (hfs : fs.size = sz)
    (helem : ∀ V : Nat → Value, (∀ j f, fs[j]? = some f → ∃ n y, DataW.trod enc P w base spare held n f.type [V j] = some y) → ∃ x : α, ∀ j u, (cells x)[j]? = some u → u = V j)
    (hv : Value.okWide P w r b0 t v) (h : DataW.Trod enc P w base spare held t v d p) : ∃ l : List α, Rd cells sz w 0 w.heap.size v l := by
  obtain ⟨a0, len0, cap0, rfl⟩ := okWide_slice ht hv
  obtain ⟨fuel, hf⟩ := h
  rcases open_slice ht (by simpa [Value.cells] using hf) with ⟨h0, _⟩ | ⟨a, len, cap, m, n, D, Pl, hcs, _, hl, hm, hmm, _, hi⟩
  · simp only [List.cons.injEq, and_true] at h0
    rw [h0]
    exact ⟨[], Rd.nil_⟩
  · simp only [List.cons.injEq, and_true] at hcs
    rw [hcs]
    refine rd_of_cells hsz hlen hl hm fun i hil => ?_
    obtain ⟨cs', hc, ht'⟩ := hi i (by rw [hmm]; split <;> omega)
    rw [hC, hfs] at hc
    obtain ⟨ys, n', _, _, hl', _, hg⟩ := DataW.trod_struct he ht'
    obtain ⟨_, hcl, hat⟩ := World.cells?_some hc
    obtain ⟨x, hx⟩ := helem (fun j => cs'.getD j undef) (fun j f hj => by
      obtain ⟨ho, hk⟩ := hone_of hone j f hj
      have hjl : j < fs.size := (Array.getElem?_eq_some_iff.1 hj).1
      have h1 := hg j f hj
      rw [ho, hk, take1_drop _ _ undef (by omega)] at h1
      cases hys : ys[j]? with
      | none => exact absurd (List.getElem?_eq_none_iff.1 hys) (by omega)
      | some y => exact ⟨_, _, h1.trans hys⟩)
    refine ⟨x, fun j u hu => ?_⟩
    have hj : j < sz := by rw [← hlen x]; exact (List.getElem?_eq_some_iff.1 hu).1
    rw [← Go.Deep.add_add, hat j hj, hx j u hu, List.getD_eq_getElem?_getD, List.getElem?_eq_getElem (by omega)]
    rfl

end

/-- what the law text's count of sizes leaves -/
def szL (left : Int) (n : Nat) : Int := if left - n < 0 then -1 else left - n
theorem szL_no {left : Int} {n : Nat} (h : left < n) : szL left n = -1 := by unfold szL; rw [if_pos (by omega)]
theorem szL_yes {left : Int} {n : Nat} (h : (n : Int) ≤ left) : szL left n = left - n := by unfold szL; rw [if_neg (by omega)]

/-- the place of the first element that is chosen, -1 if there is none -/
def findIx {α : Type} (p : α → Bool) (l : List α) : Int := if l.any p then l.findIdx p else -1

theorem findIx_hit {α : Type} {p : α → Bool} {l : List α} {k : Nat} {x : α} (h1 : (l.take k).any p = false) (h2 : l[k]? = some x) (h3 : p x = true) : findIx p l = k := by
  have ha : l.any p = true := List.any_eq_true.2 ⟨x, List.mem_of_getElem? h2, h3⟩
  obtain ⟨hk, hx⟩ := List.getElem?_eq_some_iff.1 h2
  have hf : l.findIdx p = k := by
    rw [List.findIdx_eq hk]
    refine ⟨by rw [hx]; exact h3, fun j hj => ?_⟩
    have h4 := List.any_eq_false.1 h1 (l[j]'(by omega)) (by
      rw [List.mem_take_iff_getElem]
      exact ⟨j, by omega, rfl⟩)
    simpa using h4
  simp [findIx, ha, hf]
theorem findIx_nonneg {α : Type} (p : α → Bool) (l : List α) : decide (0 ≤ findIx p l) = l.any p := by
  unfold findIx
  cases l.any p <;> simp
theorem findIx_spec {α : Type} {p : α → Bool} {l : List α} (h : l.any p = true) : ∃ k x, findIx p l = (k : Nat) ∧ k < l.length ∧ l[k]? = some x ∧ p x = true ∧ (l.take k).any p = false := by
  have hlt : l.findIdx p < l.length := List.findIdx_lt_length.2 (List.any_eq_true.1 h)
  refine ⟨l.findIdx p, l[l.findIdx p], by simp [findIx, h], hlt, List.getElem?_eq_getElem _, List.findIdx_getElem, ?_⟩
  rw [List.any_eq_false]
  intro y hy
  rw [List.mem_take_iff_getElem] at hy
  obtain ⟨j, hj, rfl⟩ := hy
  exact fun hq => by
    have := List.not_of_lt_findIdx (p := p) (xs := l) (i := j) (by omega)
    simp [this] at hq
theorem enters {P : Program} {f : FuncId} {fn : Func} {c : Code} (hf : P.funcs[f]? = some fn) (hname : (fn.name == "runtime.NumGoroutine") = false) (hb : fn.body = some c) : ∀ args w, (callFunc f args).run P w = .ok (.enter f args) w := by
  intro args w
  have h1 : fn.name ≠ "runtime.NumGoroutine" := by simpa using hname
  simp [callFunc, hf, h1, hb, mark]

/-! ### Facts on the program -/
theorem own : ownKnob Tryz.prog.godebug = none := by kernel_rfl
theorem laidOut : laidOutB Tryz.prog = true := by kernel_rfl

/-! ### The frame of a law: from a contract 'returns true, and nothing that was there has turned' to the given form -/

theorem trodAll_below {H : Type} {enc : TypeId × Value → H} {P : Program} (hl : laidOutB P = true) {W W' : World} (hb : Below W.heap.size W W') :
    ∀ (ts : List TypeId) (vs : List Value) (ds : List (DataW H)) (ps : List MemPlace), ts.all (fun t => P.readableRec t && decide (t < P.types.size)) = true →
      DataW.TrodAll enc P W 0 (fun _ => true) true ts vs ds ps → (∀ x ∈ ps, x.block < W.heap.size) → DataW.TrodAll enc P W' 0 (fun b => decide (b < W.heap.size)) true ts vs ds ps
  | [], vs, ds, ps, _, h, _ => by
    obtain ⟨rfl, rfl, rfl⟩ := trodAll_nil h
    exact trodAll_mk0
  | t :: ts, vs, ds, ps, hr, h, hp => by
    simp only [List.all_cons, Bool.and_eq_true, decide_eq_true_eq] at hr
    obtain ⟨v, vs', d, ds', p, q, rfl, rfl, rfl, hd, hrest⟩ := trodAll_cons h
    exact trodAll_cons_mk (Below.trod hl hr.1.1 hr.1.2 hd hb (fun x hx => hp x (by simp [hx]))) (trodAll_below hl hb ts vs' ds' q (by simpa using hr.2) hrest (fun x hx => hp x (by simp [hx])))

theorem law_lifted {C : Checked} {os : Os} {f : FuncId} {fn : Func} {s : ChangeSpec} {H : Type} {enc : TypeId × Value → H} {tb : TypeId}
    (own : ownKnob C.prog.godebug = none) (started : os.Started) (noInit : C.prog.inits.idxOf? f = none) (hfn : C.prog.funcs[f]? = some fn)
    (witness : ∃ (w : World) (tape : Tape) (i : Input), w.os = os ∧ (w.forCall tape i).Shaped C.prog ∧ i.vars = [] ∧ Input.okWide C.prog (w.forCall tape i) .any w.heap.size f i ∧
      s.pre6 enc C.prog fn [] false (w.forCall tape i).memory i.args ∧ ({} : Assume).holds C.prog (lone (Frame.enter C.prog f i.args .normal) [] (w.forCall tape i)))
    (hl : laidOutB C.prog = true) (hpar : fn.params.toList.all (fun t => C.prog.readableRec t && decide (t < C.prog.types.size)) = true)
    (hvars : s.vars = []) (hrt : fn.resultTypes = #[tb]) (hbt : C.prog.underlying tb = some .bool)
    (hspec : ∀ ds : List (DataW H), ds.length = fn.params.size → s.fn H ds = { results := [.lit (.bool true)], args := ds })
    (walk : ∀ (W : World) (base : Nat) (args : Array Value) (ds : List (DataW H)) (p : List MemPlace),
      (∀ (j : Nat) t v, fn.params[j]? = some t → args[j]? = some v → Value.okWide C.prog W .any base t v) →
      DataW.TrodAll enc C.prog W 0 (fun _ => true) true fn.params.toList args.toList ds p →
      Calls C.prog f args W fun e W' => e = .returned (.bool true) ∧ Below W.heap.size W W') :
    ReturnsInHanded {} C os f .any (s.pre6 enc C.prog fn [] false) (s.post enc C.prog fn false true false false) := by
  refine returnsInHanded_of_change own started noInit hfn witness ?_
  intro W base args ds gs before hval hW _ _
  have hlt : ∀ p ∈ before, p.block < W.heap.size := fun p hp => hW.lt p hp
  have hW' := hW
  obtain ⟨p, q, hA, hV, rfl, _, _⟩ := hW
  rw [hvars] at hV
  obtain ⟨rfl, rfl⟩ := trodVars_none hV
  have hlen : ds.length = fn.params.size := by
    have h2 : ∀ (ts : List TypeId) (vs : List Value) (ds : List (DataW H)) (ps : List MemPlace), DataW.TrodAll enc C.prog W 0 (fun _ => true) true ts vs ds ps → ds.length = ts.length := by
      intro ts
      induction ts with
      | nil => intro vs ds ps h; obtain ⟨_, rfl, _⟩ := trodAll_nil h; rfl
      | cons t ts ih => intro vs ds ps h; obtain ⟨v, vs', d, ds', p, q, _, rfl, _, _, h⟩ := trodAll_cons h; simp [ih _ _ _ h]
    rw [h2 _ _ _ _ hA]; simp
  have hs := hspec ds hlen
  simp only [List.append_nil] at hW' hlt
  refine (walk W base args ds p hval hA).mono fun e W' ⟨he, hb⟩ => ⟨_, he, ?_⟩
  refine ⟨ds, [], p, [], p, [], hW', ?_, ?_, ?_, World.keptBut_mono (fun x hx => ⟨hx, .inr (.inl hx)⟩) (hb.frame _), fun h => by cases h⟩
  · rw [List.append_nil, hs, hrt]; exact trodAll_mk1 (shut_bool hbt true)
  · rw [List.append_nil, hs]; exact trodAll_below hl hb _ _ _ _ hpar hA hlt
  · rw [List.append_nil, hs, hvars]; exact rfl

end Go.Proofs.YtengaccnncnipaaGreat

/- The program's and the reference's small tests on numbers. No condition. -/
namespace Go.Proofs.YtengaccnncnipaaGreat
open Go.RowKit Go.ChangeShapes Go.WideShapes Go.Deep

/-- is a number in a range -/
def inB (n a b : Int) : Bool := decide (a ≤ n) && decide (n ≤ b)
theorem inB_true {n a b : Int} (h : inB n a b = true) : a ≤ n ∧ n ≤ b := by simpa [inB] using h
theorem inB_iff (n a b : Int) : inB n a b = true ↔ a ≤ n ∧ n ≤ b := by simp [inB]

theorem l1In_any (n a b : Int) (w : World) : Calls Tryz.prog 53 #[.int .i64 n, .int .i64 a, .int .i64 b] w fun e w' => e = .returned (.bool (inB n a b)) ∧ w = w' := by
  go_enter Tryz.func53, Tryz.ntmps53
  go_wp2
  all_goals (go_ret; exact ⟨ret_bool (by simp [inB, *] <;> omega), rfl⟩)
theorem inside_any (n a b : Int) (w : World) : Calls Tryz.prog 106 #[.int .i64 n, .int .i64 a, .int .i64 b] w fun e w' => e = .returned (.bool (inB n a b)) ∧ w = w' := by
  go_enter Tryz.func106, Tryz.ntmps106
  go_wp2
  all_goals (go_ret; exact ⟨ret_bool (by simp [inB, *] <;> omega), rfl⟩)
theorem l6Irq_any (n : Int) (w : World) : Calls Tryz.prog 66 #[.int .i64 n] w fun e w' => e = .returned (.bool (inB n 0 7)) ∧ w = w' := by
  go_enter Tryz.func66, Tryz.ntmps66
  go_wp2_with (go_at_call 53; refine (l1In_any _ _ _ _).mono ?_; rintro e w' ⟨rfl, rfl⟩)
  go_ret
  exact ⟨rfl, rfl⟩
theorem isIrq_any (n : Int) (w : World) : Calls Tryz.prog 69 #[.int .i64 n] w fun e w' => e = .returned (.bool (inB n 0 7)) ∧ w = w' := by
  go_enter Tryz.func69, Tryz.ntmps69
  go_wp2_with (go_at_call 106; refine (inside_any _ _ _ _).mono ?_; rintro e w' ⟨rfl, rfl⟩)
  go_ret
  exact ⟨rfl, rfl⟩
theorem l6Prio_any (n : Int) (w : World) : Calls Tryz.prog 67 #[.int .i64 n] w fun e w' => e = .returned (.bool (inB n 0 15)) ∧ w = w' := by
  go_enter Tryz.func67, Tryz.ntmps67
  go_wp2_with (go_at_call 53; refine (l1In_any _ _ _ _).mono ?_; rintro e w' ⟨rfl, rfl⟩)
  go_ret
  exact ⟨rfl, rfl⟩
theorem isPriority_any (n : Int) (w : World) : Calls Tryz.prog 70 #[.int .i64 n] w fun e w' => e = .returned (.bool (inB n 0 15)) ∧ w = w' := by
  go_enter Tryz.func70, Tryz.ntmps70
  go_wp2_with (go_at_call 106; refine (inside_any _ _ _ _).mono ?_; rintro e w' ⟨rfl, rfl⟩)
  go_ret
  exact ⟨rfl, rfl⟩
theorem isMask_any (n : Int) (w : World) : Calls Tryz.prog 57 #[.int .i64 n] w fun e w' => e = .returned (.bool (inB n 0 16)) ∧ w = w' := by
  go_enter Tryz.func57, Tryz.ntmps57
  go_wp2_with (go_at_call 106; refine (inside_any _ _ _ _).mono ?_; rintro e w' ⟨rfl, rfl⟩)
  go_ret
  exact ⟨rfl, rfl⟩

end Go.Proofs.YtengaccnncnipaaGreat

/- The type 'Slot' of the law text and of the program: its data, its cells, and what the law text's own helpers do with lists of it. No condition. -/
namespace Go.Proofs.YtengaccnncnipaaGreat
open Go.RowKit Go.ChangeShapes Go.WideShapes Go.Deep

structure Sl where
  state : Int
  irq : Int
  prio : Int
  deriving DecidableEq, Inhabited

def Sl.cells (t : Sl) : List Value := [.int .i64 t.state, .int .i64 t.irq, .int .i64 t.prio]
def Sl.val (t : Sl) : Value := .agg #[.int .i64 t.state, .int .i64 t.irq, .int .i64 t.prio]
def Sl.zero : Sl := ⟨0, 0, 0⟩
theorem Sl.cells_len (t : Sl) : t.cells.length = 3 := rfl
theorem Sl.info : (Tryz.prog.info? 127).map (fun i => (i.zero, i.size, i.bytes)) = some (some (.agg #[.int .i64 0, .int .i64 0, .int .i64 0]), 3, 24) := by kernel_rfl
theorem Sl.get {w : World} {lo hi : Nat} {A : Option Addr} {n c k : Nat} {l : List Sl} (h : Rd Sl.cells 3 w lo hi (.slice A n c) l) (hk : k < n) {B : Nat} {wr : World} (hb : Below B w wr) (hB : hi ≤ B) :
    ∃ b off t, A = some ⟨b, off, none⟩ ∧ Hid (l[k]? = some t) ∧ lo ≤ b ∧ b < hi ∧ wr.cell? ⟨b, off + k * 3, none⟩ = some (.int .i64 t.state) ∧ wr.cell? ⟨b, off + k * 3 + 1, none⟩ = some (.int .i64 t.irq) ∧ wr.cell? ⟨b, off + k * 3 + 2, none⟩ = some (.int .i64 t.prio) := by
  obtain ⟨b, off, t, hA, hx, h1, h2, h3⟩ := h.get hk hb hB
  exact ⟨b, off, t, hA, hx, h1, h2, h3 0 _ rfl, h3 1 _ rfl, h3 2 _ rfl⟩
def Sl.eqB (x y : Sl) : Bool := x.state == y.state && (x.irq == y.irq && (x.prio == y.prio))
theorem Sl.eqB_iff (x y : Sl) : x.eqB y = true ↔ x = y := by
  cases x; cases y; simp [Sl.eqB]
def Sl.eqL (a b : List Sl) : Bool := decide (a = b)
theorem Sl.cellsOfLaw : Tryz.prog.cellsOf 132 = 3 := by kernel_rfl
theorem Sl.index_any (g : FuncId) (lb : Array Value) (p : Sl → Bool) (v : Value) (l : List Sl) (w : World) {lo hi : Nat} (h : Rd Sl.cells 3 w lo hi v l) (hh : hi ≤ w.heap.size)
    (eg : ∀ args w, (callFunc g args).run Tryz.prog w = .ok (.enter g args) w)
    (hp : ∀ (t : Sl) (W : World), t ∈ l → Below w.heap.size w W → Calls Tryz.prog g (#[t.val] ++ lb) W fun e w' => e = .returned (.bool (p t)) ∧ Below W.heap.size W w') :
    Calls Tryz.prog 168 #[v, .func (.func g) #[] lb] w fun e w' => e = .returned (.int .i64 (findIx p l)) ∧ Below w.heap.size w w' := by
  obtain ⟨A, n, c, rfl, H, hc, hm⟩ := h.form
  unfold Sl.val at hp
  have HP := Lib.hid hp
  clear hp
  go_enter Tryz.func168, Tryz.ntmps168
  go_wp2_with fail
  go_loopw [8] (fun i wr => ∃ k : Nat, k ≤ n ∧ i = .int .i64 k ∧ Below w.heap.size w wr ∧ (l.take k).any p = false) (fun i _ => n - (intOf i).toNat)
  case atStart => exact ⟨0, Nat.zero_le _, rfl, Below.refl _ _, by simp⟩
  case round =>
    obtain ⟨k, hk, rfl, hb, he⟩ := hrel
    have HE := Lib.hid he
    clear he
    by_cases hlt : k < n
    · obtain ⟨b, off, x, rfl, hx, _, _, f0, f1, f2⟩ := Sl.get h hlt hb hh
      have c1 := HP.out x wr (List.mem_of_getElem? hx.out) hb
      cases hq : p x
      · rw [hq] at c1
        have HF := Lib.hid hq
        clear hq
        go_wp2_with fail
        refine c1.mono ?_; rintro e w1 ⟨rfl, hb1⟩
        go_wp2_with fail
        go_roundw
        case rel => exact ⟨k + 1, by omega, by go_num, hb.trans (hb1.mono hb.size), by rw [List.take_add_one, List.any_append, HE.out, hx.out]; simp [HF.out]⟩
        case measure => simp [intOf]; omega
      · rw [hq] at c1
        have HF := Lib.hid (findIx_hit HE.out hx.out hq)
        clear hq
        go_wp2_with fail
        refine c1.mono ?_; rintro e w1 ⟨rfl, hb1⟩
        go_wp2_with fail
        go_ret
        exact ⟨ret_int HF.out.symm, hb.trans (hb1.mono hb.size)⟩
    · go_wp2_with fail
      go_ret
      have he := HE.out
      rw [List.take_of_length_le (by rw [← H.out]; omega)] at he
      exact ⟨ret_int (by simp [findIx, he]), hb⟩

theorem Sl.to_any (t : Sl) (w : World) : Calls Tryz.prog 136 #[t.val] w fun e w' => e = .returned t.val ∧ Below w.heap.size w w' := by
  unfold Sl.val
  go_enter Tryz.func136, Tryz.ntmps136
  go_wp2
  go_returns
  exact ⟨rfl, by go_grown⟩
theorem Sl.eq_any (x y : Sl) (w : World) : Calls Tryz.prog 138 #[x.val, y.val] w fun e w' => e = .returned (.bool (x.eqB y)) ∧ Below w.heap.size w w' := by
  unfold Sl.val
  go_enter Tryz.func138, Tryz.ntmps138
  go_wp2
  all_goals (go_ret; exact ⟨ret_bool (by simp_all [Sl.eqB]), by go_grown⟩)
theorem Sl.szS_any (v : Value) (l : List Sl) (w : World) {lo hi : Nat} (h : Rd Sl.cells 3 w lo hi v l) (left : Int) (h0 : 0 ≤ left) (h1 : left ≤ 1048576) : Calls Tryz.prog 96 #[v, .int .i64 left] w fun e w' => e = .returned (.int .i64 (szL left l.length)) ∧ w = w' := by
  obtain ⟨A, n, c, rfl, hn, hc, hm⟩ := h.form
  rw [← hn.out]
  by_cases hlt : left - n < 0
  · have H := Lib.hid (show szL left n = -1 from by simp [szL, hlt])
    go_enter Tryz.func96, Tryz.ntmps96
    go_wp2
    go_ret
    exact ⟨ret_int H.out.symm, rfl⟩
  · have H := Lib.hid (show szL left n = left - n from by simp [szL, hlt])
    go_enter Tryz.func96, Tryz.ntmps96
    go_wp2
    go_ret
    exact ⟨ret_int H.out.symm, rfl⟩
theorem Sl.toS_any (v : Value) (l : List Sl) (w : World) {lo hi : Nat} (h : Rd Sl.cells 3 w lo hi v l) (hlo : hi ≤ w.heap.size) (hl : l.length ≤ 1048576) :
    Calls Tryz.prog 104 #[v] w fun e w' => ∃ v', e = .returned v' ∧ Ow Sl.cells 3 127 w' w.heap.size w'.heap.size v' l ∧ Below w.heap.size w w' := by
  obtain ⟨A, n, c, rfl, H, hc, hm⟩ := h.form
  rw [← H.out] at hl
  obtain ⟨i0, hi0, hz0, hz1, hz2⟩ := info_parts Sl.info
  have hmk := make_new (P := Tryz.prog) Tryz.underlying30 hi0 hz0 n hl (by omega)
  rw [hz1] at hmk
  have c1 := fun t => Sl.to_any t
  unfold Sl.val at c1
  obtain ⟨cur, hcur, hcs⟩ := heap_made w (Value.agg #[.int .i64 0, .int .i64 0, .int .i64 0]).cells (n * 3) 127
  have hb0 := (Below.refl w.heap.size w).alloc (Nat.le_refl _) (.cells (madeCells (Value.agg #[.int .i64 0, .int .i64 0, .int .i64 0]).cells (n * 3)) 127)
  have hp0 : Part Sl.cells 3 127 _ w.heap.size 0 n [] := Part.start cur hcur (by omega)
  clear hcur hcs
  go_enter Tryz.func104, Tryz.ntmps104
  go_wp2
  simp only [Value.cells] at hb0 hp0
  generalize w.alloc _ = w0 at hb0 hp0 ⊢
  go_loopw [4] (fun i wr => ∃ k : Nat, k ≤ n ∧ i = .int .i64 k ∧ Below w.heap.size w wr ∧ Part Sl.cells 3 127 wr w.heap.size 0 n (l.take k)) (fun i _ => n - (intOf i).toNat)
  case atStart => exact ⟨0, Nat.zero_le _, rfl, hb0, hp0⟩
  case round =>
    clear hb0 hp0
    obtain ⟨k, hk, rfl, hb, hp⟩ := hrel
    by_cases hlt : k < n
    · obtain ⟨b, off, t, rfl, ht, _, hbw, f0, f1, f2⟩ := Sl.get h hlt hb hlo
      go_wp2_with (go_at_call 136; refine (c1 t _).mono ?_; rintro e w1 ⟨rfl, hb1⟩; have hp1 := hp.below hb1; have hfz := hp1.frozen; obtain ⟨⟨o0, g0⟩, ⟨o1, g1⟩, ⟨o2, g2⟩⟩ := hp1.cell3 hlt)
      go_roundw
      case rel =>
        refine ⟨k + 1, by omega, by go_num, setL_below (hb.trans (hb1.mono hb.size)) t.cells w.heap.size (k * 3) (Nat.le_refl _), ?_⟩
        have hlen : (l.take k).length = k := by rw [List.length_take, ← H.out]; omega
        rw [List.take_add_one, ht.out]
        exact hp1.set (by omega) t t.cells rfl rfl Sl.cells_len (by rw [hlen]; omega)
      case measure => simp [intOf]; omega
    · go_wp2
      go_ret
      have hkn : k = n := by omega
      subst hkn
      rw [List.take_of_length_le (by rw [← H.out]; omega)] at hp
      exact ⟨_, rfl, hp.ow H.out.symm (Nat.le_refl _) hp.lt (Nat.le_refl _) (by unfold maxLen; omega), hb⟩
theorem Sl.eqS_any (v1 v2 : Value) (l1 l2 : List Sl) (w : World) {lo1 hi1 lo2 hi2 : Nat} (h1 : Rd Sl.cells 3 w lo1 hi1 v1 l1) (h2 : Rd Sl.cells 3 w lo2 hi2 v2 l2) (hh1 : hi1 ≤ w.heap.size) (hh2 : hi2 ≤ w.heap.size) :
    Calls Tryz.prog 107 #[v1, v2] w fun e w' => e = .returned (.bool (Sl.eqL l1 l2)) ∧ Below w.heap.size w w' := by
  obtain ⟨A, n, c, rfl, H1, hc1, hm1⟩ := h1.form
  obtain ⟨B, m, d, rfl, H2, hc2, hm2⟩ := h2.form
  have c1 := fun a b => Sl.eq_any a b
  unfold Sl.val at c1
  by_cases hne : n = m
  · subst hne
    go_enter Tryz.func107, Tryz.ntmps107
    go_wp2_with fail
    go_loopw [5] (fun i wr => ∃ k : Nat, k ≤ n ∧ i = .int .i64 k ∧ Below w.heap.size w wr ∧ l1.take k = l2.take k) (fun i _ => n - (intOf i).toNat)
    case atStart => exact ⟨0, Nat.zero_le _, rfl, Below.refl _ _, rfl⟩
    case round =>
      obtain ⟨k, hk, rfl, hb, he⟩ := hrel
      have HE := Lib.hid he
      clear he
      by_cases hlt : k < n
      · obtain ⟨b, off, x, rfl, hx, _, _, f0, f1, f2⟩ := Sl.get h1 hlt hb hh1
        obtain ⟨b', off', y, rfl, hy, _, _, g0, g1, g2⟩ := Sl.get h2 hlt hb hh2
        cases hq : x.eqB y
        · have c1 := c1 x y
          rw [hq] at c1
          have hne : l1 ≠ l2 := by
            rintro rfl
            have : x = y := Option.some.inj (hx.out.symm.trans hy.out)
            rw [(Sl.eqB_iff x y).2 this] at hq
            cases hq
          have HF := Lib.hid (show Sl.eqL l1 l2 = false from by simp [Sl.eqL, hne])
          clear hne hq
          go_wp2_with fail
          go_region_with (go_at_call 138; refine (c1 _).mono ?_; rintro e w1 ⟨rfl, hb1⟩)
          all_goals
            go_wp2_with fail
            go_ret
            exact ⟨ret_bool HF.out.symm, hb.drew.trans (hb1.mono hb.size)⟩
        · have c1 := c1 x y
          rw [hq] at c1
          have HF := Lib.hid ((Sl.eqB_iff x y).1 hq)
          clear hq
          go_wp2_with fail
          go_region_with (go_at_call 138; refine (c1 _).mono ?_; rintro e w1 ⟨rfl, hb1⟩)
          all_goals
            go_wp2_with fail
            go_roundw
            case rel => exact ⟨k + 1, by omega, by go_num, hb.drew.trans (hb1.mono hb.size), by rw [List.take_add_one, List.take_add_one, HE.out, hx.out, hy.out, HF.out]⟩
            case measure => simp [intOf]; omega
      · go_wp2_with fail
        go_ret
        refine ⟨ret_bool ?_, hb⟩
        have he := HE.out
        rw [List.take_of_length_le (by rw [← H1.out]; omega), List.take_of_length_le (by rw [← H2.out]; omega)] at he
        simp [Sl.eqL, he]
  · have HF := Lib.hid (show Sl.eqL l1 l2 = false from by
      have : l1 ≠ l2 := by rintro rfl; exact hne (H1.out.trans H2.out.symm)
      simp [Sl.eqL, this])
    go_enter Tryz.func107, Tryz.ntmps107
    go_wp2_with fail
    go_ret
    exact ⟨ret_bool HF.out.symm, Below.refl _ _⟩
theorem Sl.eqS_same (v1 v2 : Value) (l : List Sl) (w : World) {lo1 hi1 lo2 hi2 : Nat} (h1 : Rd Sl.cells 3 w lo1 hi1 v1 l) (h2 : Rd Sl.cells 3 w lo2 hi2 v2 l) (hh1 : hi1 ≤ w.heap.size) (hh2 : hi2 ≤ w.heap.size) :
    Calls Tryz.prog 107 #[v1, v2] w fun e w' => e = .returned (.bool true) ∧ Below w.heap.size w w' := by
  have h := Sl.eqS_any v1 v2 l l w h1 h2 hh1 hh2
  rwa [show Sl.eqL l l = true from by simp [Sl.eqL]] at h

theorem Sl.one (y : Sl) (u : Value) (h : u ∈ Sl.cells y) : u.oneCell' = true := by
  simp only [Sl.cells, List.mem_cons, List.not_mem_nil, or_false] at h
  rcases h with rfl | rfl | rfl <;> rfl
theorem Sl.app_rd {w : World} {ops : Array Oper} {rest : List Oper} {o : Oper} {a : Act} {Q : Exit → Act → World → Prop} (hgd : o.guard = none) (s x : Operand)
    (ho : o.op = .call { callee := .builtin .append, args := #[s, x], argTypes := #[30, 30] }) (base : Nat)
    (v : Value) (n : Nat) (xs : List Value) (hs : a.eval s = v) (hown : w.ownsRow base 127 3 v n xs) {lo hi m c : Nat} {A : Option Addr} {l : List Sl} (hx : a.eval x = .slice A m c) (hr : Rd Sl.cells 3 w lo hi (.slice A m c) l)
    (hlen : n + m ≤ 4194304) (hbase : base ≤ w.heap.size)
    (h : ∀ v' w', w'.ownsRow base 127 3 v' (n + m) (xs ++ l.flatMap Sl.cells) → w.grownBy w' v.ownBlock → wpList Tryz.prog ops Q rest (a.put o.dst v') w') : wpList Tryz.prog ops Q (o :: rest) a w := by
  obtain ⟨i0, hi0, hz0, hz1, hz2⟩ := info_parts Sl.info
  exact wp_app_rd hgd s x _ ho base _ i0 _ 3 _ Tryz.underlying30 hi0 hz0 hz1 hz2 rfl (by omega) Sl.cells_len Sl.one v n xs hs hown hx hr (by unfold maxLen; omega) (by omega) hbase h
/-- what marking writes, from k on -/
def Sl.mark (k : Int) : Sl := ⟨k, k + 1, k + 1 + 1⟩
def Sl.markL (k : Int) (n : Nat) : List Sl := (List.range n).map fun (i : Nat) => Sl.mark (k + 3 * i)
theorem Sl.markL_len (k : Int) (n : Nat) : (Sl.markL k n).length = n := by simp [Sl.markL]
theorem Sl.markL_succ (k : Int) (n : Nat) : Sl.markL k (n + 1) = Sl.markL k n ++ [Sl.mark (k + 3 * n)] := by simp [Sl.markL, List.range_succ]

theorem Sl.markS_any (v : Value) (l : List Sl) (w : World) {lo hi : Nat} (h : Ow Sl.cells 3 127 w lo hi v l) (k0 : Int) (h0 : 0 ≤ k0) (h1 : k0 ≤ 1099511627776) (hl : l.length ≤ 1048576) :
    Calls Tryz.prog 109 #[v, .int .i64 k0] w fun e w' => e = .returned (.int .i64 (k0 + 3 * l.length)) ∧ Ow Sl.cells 3 127 w' lo hi v (Sl.markL k0 l.length) ∧ Turned w w' v l.length := by
  obtain ⟨A, n, c, rfl, H, hc, hm⟩ := h.form
  rw [← H.out] at hl ⊢
  go_enter Tryz.func109, Tryz.ntmps109
  go_wp2_with fail
  go_loopw [1, 5] (fun q i wr => ∃ k : Nat, k ≤ n ∧ i = .int .i64 k ∧ q = .int .i64 (k0 + 3 * k) ∧ (0 < n → ∃ g off, A = some ⟨g, off, none⟩ ∧ lo ≤ g ∧ g < hi ∧ Part Sl.cells 3 127 wr g off n (Sl.markL k0 k) ∧ w.grownBy wr (some g)) ∧ (n = 0 → wr = w)) (fun _ i _ => n - (intOf i).toNat)
  case atStart =>
    refine ⟨0, Nat.zero_le _, rfl, by simp, fun hn => ?_, fun _ => rfl⟩
    obtain ⟨g, off, hA, hg1, hg2, hp⟩ := h.part Sl.cells_len (by omega) hn
    exact ⟨g, off, hA, hg1, hg2, by simpa [Sl.markL] using hp, World.grownBy.refl w _⟩
  case round =>
    obtain ⟨k, hk, rfl, rfl, hp, hn0⟩ := hrel
    by_cases hlt : k < n
    · obtain ⟨g, off, rfl, hg1, hg2, hp, hg⟩ := hp (by omega)
      have hfz := hp.frozen
      obtain ⟨⟨o0, g0⟩, ⟨o1, g1⟩, ⟨o2, g2⟩⟩ := hp.cell3o hlt
      clear hn0
      go_wp2_with fail
      go_roundw
      case rel =>
        refine ⟨k + 1, by omega, by go_num, by go_num, fun _ => ⟨g, off, rfl, hg1, hg2, ?_, ?_⟩, fun h => by omega⟩
        · rw [Sl.markL_succ]
          exact hp.set (by rw [Sl.markL_len]; exact hlt) _ (Sl.mark (k0 + 3 * k)).cells rfl rfl Sl.cells_len (by rw [Sl.markL_len])
        · exact grown_trans hg (setL_grown (Sl.mark (k0 + 3 * k)).cells wr g (off + k * 3))
      case measure => simp [intOf]; omega
    · have hkn : k = n := by omega
      subst hkn
      go_wp2_with fail
      go_ret
      rcases Nat.eq_zero_or_pos k with hz | hz
      · subst hz
        have hl0 : l = [] := List.eq_nil_of_length_eq_zero H.out.symm
        subst hl0
        rw [hn0 rfl]
        exact ⟨rfl, h, Turned.refl _ _ _⟩
      · obtain ⟨g, off, rfl, hg1, hg2, hp, hg⟩ := hp hz
        exact ⟨rfl, hp.ow (Sl.markL_len _ _) hg1 hg2 hc (by unfold maxLen; omega), ⟨some g, hg, fun g' e => ⟨hz, by simpa [Value.ownBlock] using e⟩⟩⟩
theorem Sl.heldS_any (v : Value) (w : World) {lo hi n : Nat} {k0 : Int} (h : Rd Sl.cells 3 w lo hi v (Sl.markL k0 n)) (h0 : 0 ≤ k0) (h1 : k0 ≤ 1099511627776) (hl : n ≤ 1048576) :
    Calls Tryz.prog 111 #[v, .int .i64 k0] w fun e w' => e = .returned (.int .i64 (k0 + 3 * n)) ∧ w = w' := by
  obtain ⟨A, m, c, rfl, H, hc, hm⟩ := h.form
  have H := H.out
  rw [Sl.markL_len] at H
  subst H
  go_enter Tryz.func111, Tryz.ntmps111
  go_wp2_with fail
  go_loop [1, 5] (fun q i => ∃ k : Nat, k ≤ m ∧ i = .int .i64 k ∧ q = .int .i64 (k0 + 3 * k)) (fun _ i => m - (intOf i).toNat)
  case atStart => exact ⟨0, Nat.zero_le _, rfl, by simp⟩
  case round =>
    obtain ⟨k, hk, rfl, rfl⟩ := hrel
    by_cases hlt : k < m
    · obtain ⟨b, off, t, rfl, ht, _, hbw, f0, f1, f2⟩ := Sl.get h hlt (Below.refl hi w) (Nat.le_refl _)
      have ht := ht.out
      simp only [Sl.markL, List.getElem?_map, List.getElem?_range hlt, Option.map_some, Option.some.injEq] at ht
      subst ht
      simp only [Sl.mark] at f0 f1 f2
      go_wp2_with fail
      go_round
      case rel => exact ⟨k + 1, by omega, by go_num, by go_num⟩
      case measure => simp [intOf]; omega
    · have hkn : k = m := by omega
      subst hkn
      go_wp2_with fail
      go_ret
      exact ⟨rfl, rfl⟩

end Go.Proofs.YtengaccnncnipaaGreat

/- More plain lemmas about memory. No condition. -/
namespace Go.Proofs.YtengaccnncnipaaGreat
open Go.RowKit Go.ChangeShapes Go.WideShapes Go.Deep

section
variable {α : Type} {cells : α → List Value} {sz : Nat} {E : TypeId} {w : World} {lo hi : Nat} {v : Value} {l : List α}
theorem Rd.drew (h : Rd cells sz w lo hi v l) : Rd cells sz w.drew lo hi v l := h.keep fun _ _ _ _ => rfl
theorem Rd.drewN (h : Rd cells sz w lo hi v l) (n : Nat) : Rd cells sz (w.drewN n) lo hi v l := h.keep fun _ _ _ _ => rfl
theorem Ow.drew (h : Ow cells sz E w lo hi v l) : Ow cells sz E w.drew lo hi v l := h.keep fun _ _ _ _ => rfl
theorem Ow.drewN (h : Ow cells sz E w lo hi v l) (n : Nat) : Ow cells sz E (w.drewN n) lo hi v l := h.keep fun _ _ _ _ => rfl
end
theorem cell_new (w : World) (cs : Array Value) (E : TypeId) {g : Nat} (hg : g = w.heap.size) {j : Nat} {u : Value} (h : cs[j]? = some u) : (w.alloc (.cells cs E)).cell? ⟨g, j, none⟩ = some u := by
  subst hg
  rw [cell_of_row _ _ j cs E (0, 0) (heap_alloc_new w _)]
  exact h
theorem own_empty (w : World) {base : Nat} (E : TypeId) (sz : Nat) (hb : base ≤ w.heap.size) : (w.alloc (.cells #[] E)).ownsRow base E sz (.slice (some ⟨w.heap.size, 0, none⟩) 0 0) 0 [] :=
  World.ownsRow_lit w #[] 0 hb (by decide) (by simp)

theorem Ow.frozen {α : Type} {cells : α → List Value} {sz : Nat} {E : TypeId} {w : World} {lo hi b off n c : Nat} {l : List α} (h : Ow cells sz E w lo hi (.slice (some ⟨b, off, none⟩) n c) l) (hn : 0 < n) : ∀ j, w.frozen? ⟨b, j, none⟩ = false := by
  obtain ⟨A, c', hv, _, _, h⟩ := h
  injection hv with e1 e2 e3
  subst e1; subst e2
  obtain ⟨b', off', cur, hA, _, _, hh, _⟩ := h hn
  injection hA with hA
  injection hA with e1 e2
  subst e1; subst e2
  exact fun j => frozen_of_row w b j cur E hh

section
variable {α : Type} {cells : α → List Value} {sz : Nat} {E E2 : TypeId} {w w' : World} {lo hi base sz2 n2 : Nat} {v v2 : Value} {l : List α} {xs : List Value}
/-- a row of another element type has grown: this one reads as it did -/
theorem Ow.grown_own (h : Ow cells sz E w lo hi v l) (hr : w.ownsRow base E2 sz2 v2 n2 xs) (hg : w.grownBy w' v2.ownBlock) (hE : E ≠ E2) : Ow cells sz E w' lo hi v l := by
  obtain ⟨A, c, hv, hc, hm, h⟩ := h
  refine ⟨A, c, hv, hc, hm, fun hn => ?_⟩
  obtain ⟨b, off, cur, hA, hb1, hb2, hh, hx⟩ := h hn
  refine ⟨b, off, cur, hA, hb1, hb2, (hg.block b (Array.getElem?_eq_some_iff.1 hh).1 (fun e => ?_)).trans hh, hx⟩
  rcases hr.2 with ⟨rfl, _⟩ | ⟨g, cap, cur2, rfl, _, hh2, _⟩
  · simp [Value.ownBlock] at e
  · simp [Value.ownBlock] at e
    subst e
    rw [hh] at hh2
    injection hh2 with hh2
    injection hh2 with _ h4
    exact hE h4
end

end Go.Proofs.YtengaccnncnipaaGreat

/- Reslices of rows that read as lists. No condition. -/
namespace Go.Proofs.YtengaccnncnipaaGreat
open Go.RowKit Go.ChangeShapes Go.WideShapes Go.Deep

section
variable {α : Type} {cells : α → List Value} {w : World} {lo hi n c : Nat} {A : Option Addr} {l : List α}
theorem Rd.take_ {sz : Nat} (h : Rd cells sz w lo hi (.slice A n c) l) {k : Nat} (hk : k ≤ n) : Rd cells sz w lo hi (.slice A k c) (l.take k) := by
  obtain ⟨A', c', hv, h1, h2, h3⟩ := h
  injection hv with e1 e2 e3
  subst e1; subst e2; subst e3
  have hl : (l.take k).length = k := by rw [List.length_take]; omega
  refine ⟨A, c, by rw [hl], by omega, h2, fun hn => ?_⟩
  obtain ⟨b, off, hA, hb1, hb2, hx⟩ := h3 (by omega)
  refine ⟨b, off, hA, hb1, hb2, fun i x hi => hx i x ?_⟩
  rw [List.getElem?_take] at hi
  split at hi
  · exact hi
  · cases hi
theorem Rd.drop1 (h : Rd cells 1 w lo hi (.slice A n c) l) {k : Nat} (hk : k ≤ n) : Rd cells 1 w lo hi (.slice (if c = k then A else Option.map (fun x => x.add k) A) (n - k) (c - k)) (l.drop k) := by
  obtain ⟨A', c', hv, h1, h2, h3⟩ := h
  injection hv with e1 e2 e3
  subst e1; subst e2; subst e3
  have hl : (l.drop k).length = l.length - k := by rw [List.length_drop]
  refine ⟨_, c - k, by rw [hl], by omega, by omega, fun hn => ?_⟩
  obtain ⟨b, off, hA, hb1, hb2, hx⟩ := h3 (by omega)
  refine ⟨b, off + k, by rw [if_neg (by omega), hA]; simp [Go.WideShapes.add_plain], hb1, hb2, fun i x hi j u hu => ?_⟩
  rw [List.getElem?_drop] at hi
  have := hx (k + i) x hi j u hu
  rwa [show off + (k + i) * 1 + j = off + k + i * 1 + j by omega] at this
end

theorem Rd.drop1p {α : Type} {cells : α → List Value} {w : World} {lo hi n c b off : Nat} {l : List α} (h : Rd cells 1 w lo hi (.slice (some ⟨b, off, none⟩) n c) l) {k : Nat} (hk : k ≤ n) : Rd cells 1 w lo hi (.slice (if c = k then some ⟨b, off, none⟩ else some ⟨b, off + k, none⟩) (n - k) (c - k)) (l.drop k) := by
  have := h.drop1 hk
  simpa [Go.WideShapes.add_plain] using this
theorem own_ge {w : World} {base n sz : Nat} {E : TypeId} {v : Value} {xs : List Value} (h : w.ownsRow base E sz v n xs) (j : Nat) (hj : v.ownBlock = some j) : base ≤ j := by
  rcases h.2 with ⟨rfl, _⟩ | ⟨g, cap, cur, rfl, hb, _⟩
  · simp [Value.ownBlock] at hj
  · simp [Value.ownBlock] at hj
    omega
theorem own_empty_at (w : World) {base g : Nat} (E : TypeId) (sz : Nat) (hg : g = w.heap.size) (hb : base ≤ w.heap.size) : (w.alloc (.cells #[] E)).ownsRow base E sz (.slice (some ⟨g, 0, none⟩) 0 0) 0 [] := by
  subst hg; exact own_empty w E sz hb
theorem rd_one {α : Type} {cells : α → List Value} {sz : Nat} {w : World} {g : Nat} {x : α} (h : ∀ (j : Nat) (u : Value), (cells x)[j]? = some u → w.cell? ⟨g, j, none⟩ = some u) : Rd cells sz w g (g + 1) (.slice (some ⟨g, 0, none⟩) 1 1) [x] := by
  refine ⟨some ⟨g, 0, none⟩, 1, rfl, by simp, by unfold maxLen; omega, fun _ => ⟨g, 0, rfl, Nat.le_refl _, by omega, fun i y hi j u hu => ?_⟩⟩
  match i with
  | 0 =>
    simp at hi; subst hi
    simpa using h j u hu
  | i + 1 => simp at hi

/-- append of a slice that reads as a list, at a step of a region that draws -/
theorem step_app_rd {α : Type} {cells : α → List Value} {P : Program} {w : World} {ops : Array Oper} {o : Oper} {a : Act} {K : Act → World → Prop} {Q : Exit → Act → World → Prop} {E : Prop} (hgd : o.guard = none) (s x : Operand) (t : TypeId)
    (ho : o.op = .call { callee := .builtin .append, args := #[s, x], argTypes := #[t, t] })
    (base : Nat) (e : TypeId) (i : TypeInfo) (z : Value) (sz bytes : Nat) (ht : P.underlying t = some (.slice e)) (hi : P.info? e = some i) (hz : i.zero = some z)
    (hsize : i.size = sz) (hby : i.bytes = bytes) (hzs : z.cells.size = sz) (hsz : 0 < sz) (hcl : ∀ x, (cells x).length = sz) (h1 : ∀ y u, u ∈ cells y → u.oneCell' = true)
    (v : Value) (n : Nat) (xs : List Value) (hs : a.eval s = v) (hown : w.ownsRow base e sz v n xs) {lo hi' m c : Nat} {A : Option Addr} {l : List α} (hx : a.eval x = .slice A m c) (hr : Rd cells sz w lo hi' (.slice A m c) l)
    (h63 : n + m ≤ maxLen) (hbytes : (n + m) * bytes ≤ 140737488355328) (hbase : base ≤ w.heap.size)
    (h : ∀ v' w', w'.ownsRow base e sz v' (n + m) (xs ++ l.flatMap cells) → w.grownBy w' v.ownBlock → K (a.put o.dst v') w') : if Region.wanted o (yielded ops a.tmps) = true then Oper.wp P o a w K Q else E := by
  have hw : Region.wanted o (yielded ops a.tmps) = true := by simp [Region.wanted, hgd]
  rw [if_pos hw]
  obtain ⟨v', w', hrun, h2, h3⟩ := run_app_rd (P := P) w base t o.type e i z sz bytes ht hi hz hsize hby hzs hsz hcl h1 v n xs hown hr h63 hbytes hbase
  unfold Oper.wp execOp
  simp only [ho, resolve, invoke, builtin, Sem.run_bind, Sem.run_pure, Result.andThen_ok, List.map_toArray, List.map_cons, List.map_nil, hs, hx, hrun]
  exact h v' w' h2 h3

end Go.Proofs.YtengaccnncnipaaGreat

/- A region that draws its order, all of whose operations but the last ones only read old memory or call functions that lay new blocks at most: it is walked once, in the order of the text. No condition. -/
namespace Go.Proofs.YtengaccnncnipaaGreat
open Go.RowKit Go.ChangeShapes Go.WideShapes Go.Deep

/-- how far a world is from another one: its count of draws, and the new blocks -/
structure Ex where
  d : Nat
  os : Array Obj
  deriving Inhabited
def ext (w : World) (p : Ex) : World := { w with heap := w.heap ++ p.os, drawn := p.d }
theorem ext_of_below {w w' : World} (h : Below w.heap.size w w') : ∃ p, w' = ext w p := by
  refine ⟨⟨w'.drawn, w'.heap.extract w.heap.size w'.heap.size⟩, ?_⟩
  obtain ⟨heap, tape, drawn, os, output⟩ := w'
  obtain ⟨h1, h2, h3, h4, h5⟩ := h
  simp only at h1 h2 h3 h4 h5
  subst h1; subst h2; subst h3
  unfold ext
  congr 1
  apply Array.ext_getElem?
  intro k
  rw [Array.getElem?_append]
  split
  · rename_i hk; exact h5 k hk
  · rename_i hk
    rw [Array.getElem?_extract]
    split
    · congr 1; omega
    · rename_i hk2
      have : heap.size ≤ k := by
        rw [Nat.min_self] at hk2
        change ¬ k - w.heap.size < heap.size - w.heap.size at hk2
        omega
      exact Array.getElem?_eq_none this
theorem below_ext (w : World) (p : Ex) : Below w.heap.size w (ext w p) :=
  ⟨rfl, rfl, rfl, by simp [ext], fun k hk => by simp [ext, Array.getElem?_append, hk]⟩
theorem cell_ext {w : World} {b o : Nat} {v : Value} (h : w.cell? ⟨b, o, none⟩ = some v) : ∀ p, (ext w p).cell? ⟨b, o, none⟩ = some v :=
  fun p => ((below_ext w p).cell (p := ⟨b, o, none⟩) (World.block_lt_of_cell? w _ h)).trans h
/-- a callee's contract, met in a world of the class -/
theorem calls_ext {P : Program} {f : FuncId} {args : Array Value} {w : World} {p : Ex} {v : Value} (h : Calls P f args (ext w p) fun e w' => e = .returned v ∧ Below (ext w p).heap.size (ext w p) w') :
    Calls P f args (ext w p) fun e w'' => e = .returned v ∧ ∃ q, w'' = ext w q :=
  h.mono fun _ _ ⟨he, hb⟩ => ⟨he, ext_of_below ((below_ext w p).trans (hb.mono (below_ext w p).size))⟩
theorem calls_ext0 {P : Program} {f : FuncId} {args : Array Value} {w : World} {p : Ex} {v : Value} (h : Calls P f args (ext w p) fun e w' => e = .returned v ∧ ext w p = w') :
    Calls P f args (ext w p) fun e w'' => e = .returned v ∧ ∃ q, w'' = ext w q :=
  h.mono fun _ _ ⟨he, hb⟩ => ⟨he, p, hb.symm⟩

section
variable {P : Program} {ops : Array Oper} {md : Region.Mode} {C : World → Prop}
def anyC (P : Program) (md : Region.Mode) (ops : Array Oper) (C : World → Prop) (n : Nat) (L : Array Bool → Act → Prop) : Nat → Array Bool → Act → Prop
  | 0, listed, a => L listed a
  | f + 1, listed, a =>
    Region.ready md ops listed ≠ [] ∧ ∀ i ∈ Region.ready md ops listed, i < n ∧ qOp P ops C i (anyC P md ops C n L f (listed.setIfInBounds i true)) a

theorem any_of_headC {n g : Nat} {L : Array Bool → Act → Prop} {Q' : Exit → Act → World → Prop} (hL : ∀ listed a w, C w → L listed a → wpAny P md ops Q' g listed a w) :
    ∀ (f : Nat) (listed : Array Bool) (a : Act) (w : World), C w → anyC P md ops C n L f listed a → wpAny P md ops Q' (f + g) listed a w
  | 0, listed, a, w, hw, h => by rw [Nat.zero_add]; exact hL _ _ _ hw h
  | f + 1, listed, a, w, hw, h => by
    rw [show f + 1 + g = (f + g) + 1 by omega]
    exact ⟨fun h0 => absurd h0 h.1, fun i hi => wpOp_of_qOp hw (fun a' w' hw' h' => any_of_headC hL f _ a' w' hw' h') (h.2 i hi).2⟩

theorem anyC_first {n i : Nat} {oi : Oper} {v : Value} {L : Array Bool → Act → Prop} (hi : ops[i]? = some oi) (hsel : ∀ (j : Nat) (o : Oper) cs b, ops[j]? = some o → o.op ≠ .select cs b)
    (hs : Region.sinkB md ops n = true) (hc : Region.chainB md ops n = true) (hn : n < ops.size) (hin : i < n)
    (hdone : ∀ listed a, L listed a → ∀ j ∈ Region.ready md ops listed, n ≤ j) :
    ∀ (f : Nat) (listed : Array Bool) (a : Act), HeadInv md ops n listed →
      (∀ j oj, ops[j]? = some oj → j ≠ i → listed.getD j true = false → (∀ e ∈ oj.after, Region.binds md e = true → e.on ≠ i) → oi.apart ops oj = true) →
      i ∈ Region.ready md ops listed → YieldsIn P ops C oi v a →
      anyC P md ops C n L f (listed.setIfInBounds i true) (a.put oi.dst v) → anyC P md ops C n L (f + 1) listed a := by
  intro f
  induction f with
  | zero =>
    intro listed a inv _ hr hy H
    have hun := (mem_ready.1 hr).1
    refine ⟨fun h => (by rw [h] at hr; cases hr), fun j hj => ?_⟩
    have hjn : j < n := by
      rcases Nat.lt_or_ge j n with h | h
      · exact h
      · exact absurd hj (tail_waits hs hc hn inv _ i rfl hin hun j h)
    refine ⟨hjn, ?_⟩
    by_cases hji : j = i
    · subst hji; exact hy.qOp hi H
    · have := hdone _ _ H j (ready_mono hj hji)
      omega
  | succ f ih =>
    intro listed a inv hfree hr hy H
    have hun := (mem_ready.1 hr).1
    refine ⟨fun h => (by rw [h] at hr; cases hr), fun j hj => ?_⟩
    have hjn : j < n := by
      rcases Nat.lt_or_ge j n with h | h
      · exact h
      · exact absurd hj (tail_waits hs hc hn inv _ i rfl hin hun j h)
    refine ⟨hjn, ?_⟩
    by_cases hji : j = i
    · subst hji; exact hy.qOp hi H
    · have h1 := (H.2 j (ready_mono hj hji)).2
      obtain ⟨hjun, oj, hoj, hall⟩ := mem_ready.1 hj
      have hnot : ∀ e ∈ oj.after, Region.binds md e = true → e.on ≠ i := fun e he hb heq => by
        have h1 := hall e he hb
        rw [heq, getD_both hun] at h1
        cases h1
      have h2 := qOp_put hoj (hfree j oj hoj hji hjun hnot) (fun cs b => hsel i oi cs b hi) (fun cs b => hsel j oj cs b hoj) hy h1
      have hfree' : ∀ k ok, ops[k]? = some ok → k ≠ i → (listed.setIfInBounds j true).getD k true = false →
          (∀ e ∈ ok.after, Region.binds md e = true → e.on ≠ i) → oi.apart ops ok = true := fun k ok hk hki hun hno => by
        refine hfree k ok hk hki ?_ hno
        by_cases hjk : j = k
        · subst hjk; exact hjun
        · rw [getD_set_ne true hjk] at hun; exact hun
      refine qOp_mono (fun a' h3 => ih (listed.setIfInBounds j true) a' (inv.set hj hjn) hfree' (ready_mono hr (Ne.symm hji)) h3.1 ?_) h2
      rw [Array.setIfInBounds_comm _ _ hji]
      exact h3.2

theorem anyC_lex {n g : Nat} {Lq : Act → Prop} (hsel : Region.noSelect ops = true) (hs : Region.sinkB md ops n = true) (hc : Region.chainB md ops n = true) (hn : n < ops.size) :
    ∀ (l : List Oper) (k : Nat) (listed : Array Bool) (a : Act), (∀ j, j < l.length → l[j]? = ops[k + j]?) → k + l.length = n → HeadInv md ops n listed →
    Region.lexHead md ops g l.length k listed = true → wpQuiet P ops C Lq l a →
    anyC P md ops C n (fun listed' a' => Region.seqB md ops g n listed' = true ∧ Lq a') l.length listed a
  | [], k, listed, a, _, hk, _, hB, h => by
    have : k = n := by simpa using hk
    subst this
    exact ⟨by simpa [Region.lexHead] using hB, h⟩
  | o :: l, k, listed, a, hl, hk, inv, hB, h => by
    have h0 : ops[k]? = some o := by simpa using (hl 0 (by simp)).symm
    simp only [List.length_cons, Region.lexHead, Bool.and_eq_true] at hB
    obtain ⟨⟨hr, hf⟩, hB'⟩ := hB
    have hkn : k < n := by simp only [List.length_cons] at hk; omega
    have hr' : k ∈ Region.ready md ops listed := by simpa using hr
    have hst : qOp P ops C k (wpQuiet P ops C Lq l) a := by unfold qOp; simp only [h0]; exact h
    obtain ⟨v, hy, hK⟩ := yieldsIn_of_qOp h0 hst
    exact anyC_first h0 (Region.noSelect_spec hsel) hs hc hn hkn (fun listed' a' hL => seqB_ready hL.1) l.length listed a inv (Region.free_spec h0 hf) hr' hy
      (anyC_lex hsel hs hc hn l (k + 1) _ _ (fun j hj => by have := hl (j + 1) (by simp; omega); simpa [Nat.add_assoc, Nat.add_comm 1 j] using this) (by simp only [List.length_cons] at hk; omega) (inv.set hr' hkn) hB' hK)
end

/-- the last operations (from the n-th on) come last, one behind the other; those ahead of them are quiet -/
theorem wp_region_ext {P : Program} {id : Nat} {Q : Exit → Act → World → Prop} {a : Act} {w : World} {l : List Oper} (n : Nat) (hm : P.follows .mixedOrders = true) (hB : Region.lexTailB .any l.toArray n = true)
    (h : wpQuiet P l.toArray (fun w' => ∃ p : Ex, w' = ext w p) (fun a' => ∀ w1, Below w.heap.size w w1 → wpList P l.toArray Q (l.drop n) a' w1) (l.take n) a) : (Code.region id l.toArray true).wp P Q a w := by
  simp only [Region.lexTailB, Bool.and_eq_true, decide_eq_true_eq] at hB
  obtain ⟨⟨⟨⟨hsel, hn⟩, hs⟩, hc⟩, hlex⟩ := hB
  have hn' : n < l.length := by simpa using hn
  have htl : (l.take n).length = n := by simp; omega
  have hdl : (l.drop n).length = l.toArray.size - n := by simp
  have inv0 : HeadInv .any l.toArray n (Array.replicate l.toArray.size false) :=
    ⟨by simp, fun j oj _ hl => (by rw [getD_replicate_false] at hl; cases hl), fun t _ ht => getD_in (by simpa using ht) (getD_replicate_false _ _)⟩
  have H := anyC_lex (md := .any) (g := l.toArray.size - n) hsel hs hc hn (l.take n) 0 _ a (fun j hj => by
    have hj' : j < n := by rw [htl] at hj; exact hj
    simp [hj']) (by simpa using htl) inv0 (by rw [htl]; exact hlex) h
  refine wp_region_any hm ?_
  have := any_of_headC (C := fun w' => ∃ p : Ex, w' = ext w p) (Q' := Q) (g := l.toArray.size - n) (fun listed a' w' hw' hL => by
    obtain ⟨p, rfl⟩ := hw'
    have := wpAny_of_seq (md := .any) (Q' := Q) (l.drop n) n listed a' (ext w p) (fun j => by simp [List.getElem?_drop]) (by rw [hdl]; exact hL.1) (hL.2 _ (below_ext w p))
    rwa [hdl] at this) _ _ _ { w with drawn := w.drawn + 1 } ⟨⟨w.drawn + 1, #[]⟩, by simp [ext]⟩ H
  rw [htl, show n + (l.toArray.size - n) = l.toArray.size by omega] at this
  exact this
/-- all operations are quiet -/
theorem wp_region_ext_all {P : Program} {id : Nat} {Q : Exit → Act → World → Prop} {a : Act} {w : World} {l : List Oper} (hm : P.follows .mixedOrders = true) (hB : Region.lexB .any l.toArray = true)
    (h : wpQuiet P l.toArray (fun w' => ∃ p : Ex, w' = ext w p) (fun a' => ∀ w1, Below w.heap.size w w1 → Q .normal a' w1) l a) : (Code.region id l.toArray true).wp P Q a w := by
  refine wp_region_quiet (C := fun w' => ∃ p : Ex, w' = ext w p) hm hB ⟨⟨w.drawn + 1, #[]⟩, by simp [ext]⟩ ?_
  have hmono : ∀ (l' : List Oper) (Q1 Q2 : Act → Prop) (a : Act), (∀ a, Q1 a → Q2 a) → wpQuiet P l.toArray (fun w' => ∃ p : Ex, w' = ext w p) Q1 l' a → wpQuiet P l.toArray (fun w' => ∃ p : Ex, w' = ext w p) Q2 l' a := by
    intro l'
    induction l' with
    | nil => intro Q1 Q2 a hq h; exact hq a h
    | cons o l' ih =>
      intro Q1 Q2 a hq h
      unfold wpQuiet at h ⊢
      split
      · rename_i hw; rw [if_pos hw] at h; exact Oper.quiet_mono (fun a => ih Q1 Q2 a hq) h
      · rename_i hw; rw [if_neg hw] at h; exact ih Q1 Q2 _ hq h
  exact hmono _ _ _ _ (fun a' h' w' hw' => by obtain ⟨p, rfl⟩ := hw'; exact h' _ (below_ext w p)) h

end Go.Proofs.YtengaccnncnipaaGreat

/- Slots: finding one, and whether they are valid, in the program and in the reference. No condition. -/
namespace Go.Proofs.YtengaccnncnipaaGreat
open Go.RowKit Go.ChangeShapes Go.WideShapes Go.Deep

def Sl.has (i : Int) (s : Sl) : Bool := !(s.state == 0) && s.irq == i
def Sl.free (s : Sl) : Bool := s.state == 0
def Sl.okAt (l : List Sl) (i : Nat) (s : Sl) : Bool :=
  if s.state = 0 then s.irq == 0 && s.prio == 0 else inB s.state 1 3 && (inB s.irq 0 7 && (inB s.prio 0 15 && !(l.take i).any (Sl.has s.irq)))
def Sl.upTo (l : List Sl) : Nat → Bool
  | 0 => true
  | k + 1 => Sl.upTo l k && (match l[k]? with | some s => Sl.okAt l k s | none => true)
def Sl.good (l : List Sl) : Bool := decide ((l.length : Int) = 4) && Sl.upTo l l.length
theorem Sl.upTo_succ {l : List Sl} {k : Nat} {s : Sl} (h : l[k]? = some s) : Sl.upTo l (k + 1) = (Sl.upTo l k && Sl.okAt l k s) := by simp [Sl.upTo, h]
theorem Sl.upTo_mono {l : List Sl} : ∀ {k m : Nat}, k ≤ m → Sl.upTo l m = true → Sl.upTo l k = true
  | k, 0, h, h2 => by obtain rfl : k = 0 := by omega
                      exact h2
  | k, m + 1, h, h2 => by
    rcases Nat.eq_or_lt_of_le h with rfl | h
    · exact h2
    · rw [Sl.upTo, Bool.and_eq_true] at h2
      exact Sl.upTo_mono (by omega) h2.1
theorem Sl.upTo_no {l : List Sl} {k : Nat} {s : Sl} (hk : k < l.length) (h : l[k]? = some s) (h2 : Sl.okAt l k s = false) : Sl.good l = false := by
  cases hq : Sl.upTo l l.length
  · simp [Sl.good, hq]
  · have := Sl.upTo_mono (show k + 1 ≤ l.length by omega) hq
    rw [Sl.upTo_succ h, h2] at this
    simp at this
theorem Sl.good_len {l : List Sl} (h : Sl.good l = true) : l.length = 4 := by
  simp only [Sl.good, Bool.and_eq_true, decide_eq_true_eq] at h; omega
theorem Sl.good_one {l : List Sl} (h : Sl.good l = true) {k : Nat} {s : Sl} (hs : l[k]? = some s) : Sl.okAt l k s = true := by
  simp only [Sl.good, Bool.and_eq_true] at h
  have hk := (List.getElem?_eq_some_iff.1 hs).1
  have := Sl.upTo_mono (show k + 1 ≤ l.length by omega) h.2
  rw [Sl.upTo_succ hs, Bool.and_eq_true] at this
  exact this.2
theorem Sl.find_at {l : List Sl} {k : Nat} {s : Sl} (hs : l[k]? = some s) (h0 : ¬ s.state = 0) : (findIx (Sl.has s.irq) l = k) ↔ (l.take k).any (Sl.has s.irq) = false := by
  have hp : Sl.has s.irq s = true := by simp [Sl.has, h0]
  constructor
  · intro h
    have ha : l.any (Sl.has s.irq) = true := List.any_eq_true.2 ⟨s, List.mem_of_getElem? hs, hp⟩
    obtain ⟨k', x, h1, _, _, _, h2⟩ := findIx_spec ha
    rw [h] at h1
    have : k = k' := by omega
    rw [this]; exact h2
  · intro h
    exact findIx_hit h hs hp

theorem l8Find_any (v : Value) (l : List Sl) (i : Int) (w : World) {lo hi : Nat} (h : Rd Sl.cells 3 w lo hi v l) (hh : hi ≤ w.heap.size) : Calls Tryz.prog 135 #[v, .int .i64 i] w fun e w' => e = .returned (.int .i64 (findIx (Sl.has i) l)) ∧ w = w' := by
  obtain ⟨A, n, c, rfl, H, hc, hm⟩ := h.form
  go_enter Tryz.func135, Tryz.ntmps135
  go_wp2_with fail
  go_loop [5] (fun j => ∃ k : Nat, k ≤ n ∧ j = .int .i64 k ∧ (l.take k).any (Sl.has i) = false) (fun j => n - (intOf j).toNat)
  case atStart => exact ⟨0, Nat.zero_le _, rfl, by simp⟩
  case round =>
    obtain ⟨k, hk, rfl, he⟩ := hrel
    have HE := Lib.hid he
    clear he
    by_cases hlt : k < n
    · obtain ⟨b, off, s, rfl, hs, _, _, f0, f1, f2⟩ := Sl.get h hlt (Below.refl w.heap.size w) hh
      have HN := Lib.hid (fun (hq : Sl.has i s = false) => show (l.take (k + 1)).any (Sl.has i) = false from by rw [List.take_add_one, List.any_append, HE.out, hs.out]; simp [hq])
      by_cases h1 : s.state = 0
      · have HF := Lib.hid (HN.out (by simp [Sl.has, h1]))
        rw [h1] at f0
        clear h1
        go_wp2_with fail
        go_round
        case rel => exact ⟨k + 1, by omega, by go_num, HF.out⟩
        case measure => simp [intOf]; omega
      · by_cases h2 : s.irq = i
        · have HF := Lib.hid (findIx_hit HE.out hs.out (show Sl.has i s = true from by simp [Sl.has, h1, h2]))
          go_wp2_with fail
          go_ret
          exact ⟨ret_int HF.out.symm, rfl⟩
        · have HF := Lib.hid (HN.out (by simp [Sl.has, h2]))
          go_wp2_with fail
          go_round
          case rel => exact ⟨k + 1, by omega, by go_num, HF.out⟩
          case measure => simp [intOf]; omega
    · go_wp2_with fail
      go_ret
      have he := HE.out
      rw [List.take_of_length_le (by rw [← H.out]; omega)] at he
      exact ⟨ret_int (by simp [findIx, he]), rfl⟩
theorem l8Free_any (v : Value) (l : List Sl) (w : World) {lo hi : Nat} (h : Rd Sl.cells 3 w lo hi v l) (hh : hi ≤ w.heap.size) : Calls Tryz.prog 173 #[v] w fun e w' => e = .returned (.int .i64 (findIx Sl.free l)) ∧ w = w' := by
  obtain ⟨A, n, c, rfl, H, hc, hm⟩ := h.form
  go_enter Tryz.func173, Tryz.ntmps173
  go_wp2_with fail
  go_loop [3] (fun j => ∃ k : Nat, k ≤ n ∧ j = .int .i64 k ∧ (l.take k).any Sl.free = false) (fun j => n - (intOf j).toNat)
  case atStart => exact ⟨0, Nat.zero_le _, rfl, by simp⟩
  case round =>
    obtain ⟨k, hk, rfl, he⟩ := hrel
    have HE := Lib.hid he
    clear he
    by_cases hlt : k < n
    · obtain ⟨b, off, s, rfl, hs, _, _, f0, f1, f2⟩ := Sl.get h hlt (Below.refl w.heap.size w) hh
      by_cases h1 : s.state = 0
      · have HF := Lib.hid (findIx_hit HE.out hs.out (show Sl.free s = true from by simp [Sl.free, h1]))
        rw [h1] at f0
        clear h1
        go_wp2_with fail
        go_ret
        exact ⟨ret_int HF.out.symm, rfl⟩
      · have HF := Lib.hid (show (l.take (k + 1)).any Sl.free = false from by rw [List.take_add_one, List.any_append, HE.out, hs.out]; simp [Sl.free, h1])
        go_wp2_with fail
        go_round
        case rel => exact ⟨k + 1, by omega, by go_num, HF.out⟩
        case measure => simp [intOf]; omega
    · go_wp2_with fail
      go_ret
      have he := HE.out
      rw [List.take_of_length_le (by rw [← H.out]; omega)] at he
      exact ⟨ret_int (by simp [findIx, he]), rfl⟩
theorem findClo_any (i : Int) (w : World) {B : Nat} (hB : w.cell? ⟨B, 0, none⟩ = some (.int .i64 i)) (hz : B < w.heap.size) (s : Sl) (W : World) (hb : Below w.heap.size w W) :
    Calls Tryz.prog 169 (#[s.val] ++ #[.pointer (some ⟨B, 0, none⟩)]) W fun e w' => e = .returned (.bool (Sl.has i s)) ∧ Below W.heap.size W w' := by
  rw [← hb.cell (p := ⟨B, 0, none⟩) hz] at hB
  have hBz : B < W.heap.size := Nat.lt_of_lt_of_le hz hb.size
  clear hb hz
  unfold Sl.val
  by_cases h1 : s.state = 0
  · rw [h1]
    have HF := Lib.hid (show Sl.has i s = false from by simp [Sl.has, h1])
    go_enter Tryz.func169, Tryz.ntmps169
    go_wp2
    go_ret
    exact ⟨ret_bool HF.out.symm, by go_grown⟩
  · by_cases h2 : s.irq = i
    · have HF := Lib.hid (show Sl.has i s = true from by simp [Sl.has, h1, h2])
      rw [h2]
      clear h2
      go_enter Tryz.func169, Tryz.ntmps169
      go_wp2
      go_ret
      exact ⟨ret_bool HF.out.symm, by go_grown⟩
    · have HF := Lib.hid (show Sl.has i s = false from by simp [Sl.has, h2])
      go_enter Tryz.func169, Tryz.ntmps169
      go_wp2
      go_ret
      exact ⟨ret_bool (by rw [HF.out]; simp [h2]), by go_grown⟩

theorem findSlot_any (v : Value) (l : List Sl) (i : Int) (w : World) {lo hi : Nat} (h : Rd Sl.cells 3 w lo hi v l) (hh : hi ≤ w.heap.size) : Calls Tryz.prog 129 #[v, .int .i64 i] w fun e w' => e = .returned (.int .i64 (findIx (Sl.has i) l)) ∧ Below w.heap.size w w' := by
  have b0 := (Below.refl w.heap.size w).alloc (Nat.le_refl _) (.cells #[.int .i64 i] 3)
  have k0 : (w.alloc (.cells #[.int .i64 i] 3)).cell? ⟨w.heap.size, 0, none⟩ = some (.int .i64 i) := by simp
  have z0 : (w.alloc (.cells #[.int .i64 i] 3)).heap.size = w.heap.size + 1 := by simp
  have hrd := h.below b0 hh
  have c1 := Sl.index_any 169 #[.pointer (some ⟨w.heap.size, 0, none⟩)] (Sl.has i) v l _ hrd (by omega) (enters Tryz.func169 (by kernel_rfl) rfl) (fun t W _ hW => findClo_any i _ k0 (by omega) t W hW)
  obtain ⟨A, n, c, rfl, H, hc, hm⟩ := h.form
  go_enter Tryz.func129, Tryz.ntmps129
  go_wp2_with fail
  refine c1.mono ?_; rintro e w1 ⟨rfl, b1⟩
  go_wp2_with fail
  go_ret
  exact ⟨rfl, b0.trans (b1.mono (by omega))⟩
theorem freeClo_any (s : Sl) (w : World) : Calls Tryz.prog 182 #[s.val] w fun e w' => e = .returned (.bool (Sl.free s)) ∧ Below w.heap.size w w' := by
  unfold Sl.val
  by_cases h1 : s.state = 0
  · rw [h1]
    have HF := Lib.hid (show Sl.free s = true from by simp [Sl.free, h1])
    go_enter Tryz.func182, Tryz.ntmps182
    go_wp2
    go_ret
    exact ⟨ret_bool HF.out.symm, by go_grown⟩
  · have HF := Lib.hid (show Sl.free s = false from by simp [Sl.free, h1])
    go_enter Tryz.func182, Tryz.ntmps182
    go_wp2
    go_ret
    exact ⟨ret_bool (by rw [HF.out]; simp [h1]), by go_grown⟩
theorem firstEmpty_any (v : Value) (l : List Sl) (w : World) {lo hi : Nat} (h : Rd Sl.cells 3 w lo hi v l) (hh : hi ≤ w.heap.size) : Calls Tryz.prog 155 #[v] w fun e w' => e = .returned (.int .i64 (findIx Sl.free l)) ∧ Below w.heap.size w w' := by
  have c1 := Sl.index_any 182 #[] Sl.free v l w h hh (enters Tryz.func182 (by kernel_rfl) rfl) (fun t W _ _ => freeClo_any t W)
  obtain ⟨A, n, c, rfl, H, hc, hm⟩ := h.form
  go_enter Tryz.func155, Tryz.ntmps155
  go_wp2_with fail
  refine c1.mono ?_; rintro e w1 ⟨rfl, b1⟩
  go_wp2_with fail
  go_ret
  exact ⟨rfl, b1⟩

end Go.Proofs.YtengaccnncnipaaGreat

/- Whether slots are valid, in the program and in the reference. No condition. -/
namespace Go.Proofs.YtengaccnncnipaaGreat
open Go.RowKit Go.ChangeShapes Go.WideShapes Go.Deep

theorem inB03 {x : Int} (h : inB x 0 3 = true) (h0 : ¬ x = 0) : inB x 1 3 = true := by rw [inB_iff] at *; omega
theorem inB13 {x : Int} (h : inB x 1 3 = true) : inB x 0 3 = true := by rw [inB_iff] at *; omega

set_option maxHeartbeats 1000000 in
theorem l8Good_any (v : Value) (l : List Sl) (w : World) {lo hi : Nat} (h : Rd Sl.cells 3 w lo hi v l) (hh : hi ≤ w.heap.size) : Calls Tryz.prog 172 #[v] w fun e w' => e = .returned (.bool (Sl.good l)) ∧ Below w.heap.size w w' := by
  have hrd := h
  obtain ⟨A, n, c, rfl, H, hc, hm⟩ := h.form
  have c1 := fun x W => l1In_any x 0 3 W
  have c2 := fun x W => l6Irq_any x W
  have c3 := fun x W => l6Prio_any x W
  have c4 := fun x (W : World) (k : Below w.heap.size w W) => l8Find_any _ l x W (hrd.below k hh) (Nat.le_trans hh k.size)
  go_enter Tryz.func172, Tryz.ntmps172
  go_wp2_with fail
  go_loopw [3] (fun i wr => ∃ k : Nat, k ≤ n ∧ i = .int .i64 k ∧ Below w.heap.size w wr ∧ Sl.upTo l k = true) (fun i _ => n - (intOf i).toNat)
  case atStart => exact ⟨0, Nat.zero_le _, rfl, Below.refl _ _, rfl⟩
  case round =>
    obtain ⟨k, hk, rfl, hb, he⟩ := hrel
    have HE := Lib.hid he
    clear he
    have hbs := hb.size
    by_cases hlt : k < n
    · obtain ⟨b, off, s, rfl, hs, _, hbl, f0, f1, f2⟩ := Sl.get h hlt hb hh
      have hb2 := hb.alloc hb.size (.cells #[.int .i64 s.state, .int .i64 s.irq, .int .i64 s.prio] 127)
      have HN := Lib.hid (fun hq => Sl.upTo_no (l := l) (k := k) (s := s) (by rw [← H.out]; exact hlt) hs.out hq)
      have HY := Lib.hid (fun (hq : Sl.okAt l k s = true) => show Sl.upTo l (k + 1) = true from by rw [Sl.upTo_succ hs.out, HE.out, hq]; rfl)
      have HI := Lib.hid (fun (h0 : ¬ s.state = 0) => Sl.find_at hs.out h0)
      have c1 := c1 s.state
      have c2 := c2 s.irq
      have c3 := c3 s.prio
      have c4 := c4 s.irq
      cases h1 : inB s.state 0 3
      · have HF := Lib.hid (HN.out (by
          have h0 : ¬ s.state = 0 := fun e => by rw [e] at h1; simp [inB] at h1
          have : inB s.state 1 3 = false := by cases hq : inB s.state 1 3 with
            | false => rfl
            | true => rw [inB13 hq] at h1; cases h1
          simp [Sl.okAt, h0, this]))
        rw [h1] at c1
        clear h1
        go_wp2_with fail
        refine (c1 _).mono ?_; rintro q w' ⟨rfl, rfl⟩
        go_wp2_with fail
        go_ret
        exact ⟨ret_bool HF.out.symm, hb2⟩
      · cases h2 : inB s.irq 0 7
        · have HF := Lib.hid (HN.out (by
            by_cases h0 : s.state = 0
            · have : ¬ s.irq = 0 := fun e => by rw [e] at h2; simp [inB] at h2
              simp [Sl.okAt, h0, this]
            · simp [Sl.okAt, h0, h2]))
          rw [h1] at c1
          rw [h2] at c2
          clear h1 h2
          go_wp2_with fail
          refine (c1 _).mono ?_; rintro q w' ⟨rfl, rfl⟩
          go_wp2_with fail
          refine (c2 _).mono ?_; rintro q w' ⟨rfl, rfl⟩
          go_wp2_with fail
          go_ret
          exact ⟨ret_bool HF.out.symm, hb2⟩
        · cases h3 : inB s.prio 0 15
          · have HF := Lib.hid (HN.out (by
              by_cases h0 : s.state = 0
              · have : ¬ s.prio = 0 := fun e => by rw [e] at h3; simp [inB] at h3
                simp [Sl.okAt, h0, this]
              · simp [Sl.okAt, h0, h3]))
            rw [h1] at c1
            rw [h2] at c2
            rw [h3] at c3
            clear h1 h2 h3
            go_wp2_with fail
            refine (c1 _).mono ?_; rintro q w' ⟨rfl, rfl⟩
            go_wp2_with fail
            refine (c2 _).mono ?_; rintro q w' ⟨rfl, rfl⟩
            go_wp2_with fail
            refine (c3 _).mono ?_; rintro q w' ⟨rfl, rfl⟩
            go_wp2_with fail
            go_ret
            exact ⟨ret_bool HF.out.symm, hb2⟩
          · by_cases h0 : s.state = 0
            · by_cases hi0 : s.irq = 0
              · by_cases hp0 : s.prio = 0
                · have HF := Lib.hid (HY.out (by simp [Sl.okAt, h0, hi0, hp0]))
                  rw [h1] at c1
                  rw [h2] at c2
                  rw [h3] at c3
                  clear h1 h2 h3 c4 HI HN HY
                  rw [h0] at c1 f0
                  rw [hi0] at c2 f1
                  rw [hp0] at c3 f2
                  rw [h0, hi0, hp0] at hb2
                  clear h0 hi0 hp0
                  go_wp2_with fail
                  refine (c1 _).mono ?_; rintro q w' ⟨rfl, rfl⟩
                  go_wp2_with fail
                  refine (c2 _).mono ?_; rintro q w' ⟨rfl, rfl⟩
                  go_wp2_with fail
                  refine (c3 _).mono ?_; rintro q w' ⟨rfl, rfl⟩
                  go_wp2_with fail
                  go_roundw
                  case rel => exact ⟨k + 1, by omega, by go_num, hb2, HF.out⟩
                  case measure => simp [intOf]; omega
                · have HF := Lib.hid (HN.out (by simp [Sl.okAt, h0, hp0]))
                  rw [h1] at c1
                  rw [h2] at c2
                  rw [h3] at c3
                  clear h1 h2 h3 c4 HI HN HY
                  rw [h0] at c1 f0
                  rw [hi0] at c2 f1
                  rw [h0, hi0] at hb2
                  clear h0 hi0
                  go_wp2_with fail
                  refine (c1 _).mono ?_; rintro q w' ⟨rfl, rfl⟩
                  go_wp2_with fail
                  refine (c2 _).mono ?_; rintro q w' ⟨rfl, rfl⟩
                  go_wp2_with fail
                  refine (c3 _).mono ?_; rintro q w' ⟨rfl, rfl⟩
                  go_wp2_with fail
                  go_ret
                  exact ⟨ret_bool HF.out.symm, hb2⟩
              · have HF := Lib.hid (HN.out (by simp [Sl.okAt, h0, hi0]))
                rw [h1] at c1
                rw [h2] at c2
                rw [h3] at c3
                clear h1 h2 h3 c4 HI HN HY
                rw [h0] at c1 f0
                rw [h0] at hb2
                clear h0
                go_wp2_with fail
                refine (c1 _).mono ?_; rintro q w' ⟨rfl, rfl⟩
                go_wp2_with fail
                refine (c2 _).mono ?_; rintro q w' ⟨rfl, rfl⟩
                go_wp2_with fail
                refine (c3 _).mono ?_; rintro q w' ⟨rfl, rfl⟩
                go_wp2_with fail
                go_ret
                exact ⟨ret_bool HF.out.symm, hb2⟩
            · have HI2 := HI.out h0
              by_cases hf : findIx (Sl.has s.irq) l = k
              · have HF := Lib.hid (HY.out (by simp only [Sl.okAt, if_neg h0, inB03 h1 h0, h2, h3, HI2.1 hf]; rfl))
                rw [h1] at c1
                rw [h2] at c2
                rw [h3] at c3
                rw [hf] at c4
                clear h1 h2 h3 HI HN HY HI2 hf
                go_wp2_with fail
                refine (c1 _).mono ?_; rintro q w' ⟨rfl, rfl⟩
                go_wp2_with fail
                refine (c2 _).mono ?_; rintro q w' ⟨rfl, rfl⟩
                go_wp2_with fail
                refine (c3 _).mono ?_; rintro q w' ⟨rfl, rfl⟩
                go_wp2_with fail
                refine (c4 _ hb2).mono ?_; rintro q w' ⟨rfl, rfl⟩
                go_wp2_with fail
                go_roundw
                case rel => exact ⟨k + 1, by omega, by go_num, hb2, HF.out⟩
                case measure => simp [intOf]; omega
              · have HF := Lib.hid (HN.out (by
                  have : (l.take k).any (Sl.has s.irq) = true := by
                    cases hq : (l.take k).any (Sl.has s.irq) with
                    | true => rfl
                    | false => exact absurd (HI2.2 hq) hf
                  simp only [Sl.okAt, if_neg h0, this]; simp))
                generalize findIx (Sl.has s.irq) l = z at c4 hf
                rw [h1] at c1
                rw [h2] at c2
                rw [h3] at c3
                clear h1 h2 h3 HI HN HY HI2
                go_wp2_with fail
                refine (c1 _).mono ?_; rintro q w' ⟨rfl, rfl⟩
                go_wp2_with fail
                refine (c2 _).mono ?_; rintro q w' ⟨rfl, rfl⟩
                go_wp2_with fail
                refine (c3 _).mono ?_; rintro q w' ⟨rfl, rfl⟩
                go_wp2_with fail
                refine (c4 _ hb2).mono ?_; rintro q w' ⟨rfl, rfl⟩
                go_wp2_with fail
                go_ret
                exact ⟨ret_bool HF.out.symm, hb2⟩
    · have hn := H.out
      have hkn : k = n := by omega
      subst hkn
      have HF := Lib.hid (show Sl.good l = decide ((k : Int) = 4) from by simp only [Sl.good, ← hn, HE.out, Bool.and_true])
      clear hn
      go_wp2_with fail
      go_ret
      exact ⟨ret_bool HF.out.symm, hb⟩

end Go.Proofs.YtengaccnncnipaaGreat

/- Whether slots are valid, in the program. No condition. -/
namespace Go.Proofs.YtengaccnncnipaaGreat
open Go.RowKit Go.ChangeShapes Go.WideShapes Go.Deep

set_option maxHeartbeats 2000000 in
theorem implAreSlots_any (v : Value) (l : List Sl) (w : World) {lo hi : Nat} (h : Rd Sl.cells 3 w lo hi v l) (hh : hi ≤ w.heap.size) : Calls Tryz.prog 152 #[v] w fun e w' => e = .returned (.bool (Sl.good l)) ∧ Below w.heap.size w w' := by
  have hrd := h
  obtain ⟨A, n, c, rfl, H, hc, hm⟩ := h.form
  by_cases h4 : n = 4
  · have c1 := fun x W => inside_any x 1 3 W
    have c2 := fun x W => isIrq_any x W
    have c3 := fun x W => isPriority_any x W
    have hn4 : n ≤ 4 := by omega
    have HG := Lib.hid (show Sl.good l = Sl.upTo l l.length from by have := H.out; simp only [Sl.good]; rw [← this, h4]; simp)
    have h4' : (n : Int) = 4 := by omega
    have hd4 : ((n : Int) == 4) = true := by rw [h4']; rfl
    clear h4 h4'
    go_enter Tryz.func152, Tryz.ntmps152
    go_wp2_with fail
    go_loopw [10] (fun i wr => ∃ k : Nat, k ≤ n ∧ i = .int .i64 k ∧ Below w.heap.size w wr ∧ Sl.upTo l k = true) (fun i _ => n - (intOf i).toNat)
    case atStart => exact ⟨0, Nat.zero_le _, rfl, Below.refl _ _, rfl⟩
    case round =>
      obtain ⟨k, hk, rfl, hb, he⟩ := hrel
      have HE := Lib.hid he
      clear he
      have hbs := hb.size
      by_cases hlt : k < n
      · obtain ⟨b, off, s, rfl, hs, _, hbl, f0, f1, f2⟩ := Sl.get h hlt hb hh
        have hb2 := hb.alloc hb.size (.cells #[.int .i64 s.state, .int .i64 s.irq, .int .i64 s.prio] 127)
        have HN := Lib.hid (fun hq => Sl.upTo_no (l := l) (k := k) (s := s) (by rw [← H.out]; exact hlt) hs.out hq)
        have HY := Lib.hid (fun (hq : Sl.okAt l k s = true) => show Sl.upTo l (k + 1) = true from by rw [Sl.upTo_succ hs.out, HE.out, hq]; rfl)
        by_cases h0 : s.state = 0
        · by_cases hi0 : s.irq = 0
          · by_cases hp0 : s.prio = 0
            · have HF := Lib.hid (HY.out (by simp [Sl.okAt, h0, hi0, hp0]))
              rw [h0] at f0
              rw [hi0] at f1
              rw [hp0] at f2
              rw [h0, hi0, hp0] at hb2
              clear h0 hi0 hp0 HN HY
              go_wp2_with fail
              go_roundw
              case rel => exact ⟨k + 1, by omega, by go_num, hb2, HF.out⟩
              case measure => simp [intOf]; omega
            · have HF := Lib.hid (HN.out (by simp [Sl.okAt, h0, hp0]))
              rw [h0] at f0
              rw [hi0] at f1
              rw [h0, hi0] at hb2
              clear h0 hi0 HN HY
              go_wp2_with fail
              go_ret
              exact ⟨ret_bool (by rw [HG.out, ← HF.out, HG.out]), hb2⟩
          · have HF := Lib.hid (HN.out (by simp [Sl.okAt, h0, hi0]))
            rw [h0] at f0
            rw [h0] at hb2
            clear h0 HN HY
            go_wp2_with fail
            go_ret
            exact ⟨ret_bool (by rw [HG.out, ← HF.out, HG.out]), hb2⟩
        · have HI := Lib.hid (Sl.find_at hs.out h0)
          have c1 := c1 s.state
          have c2 := c2 s.irq
          have c3 := c3 s.prio
          have hkn : k ≤ n := by omega
          have hkc : k ≤ c := by omega
          cases h1 : inB s.state 1 3
          · have HF := Lib.hid (HN.out (by simp [Sl.okAt, h0, h1]))
            rw [h1] at c1
            clear h1 HN HY HI c2 c3
            go_wp2_with fail
            have k0 : (wr.alloc (.cells #[.int .i64 s.state, .int .i64 s.irq, .int .i64 s.prio] 127)).cell? ⟨wr.heap.size, 0, none⟩ = some (.int .i64 s.state) := by simp
            have k1 : (wr.alloc (.cells #[.int .i64 s.state, .int .i64 s.irq, .int .i64 s.prio] 127)).cell? ⟨wr.heap.size, 1, none⟩ = some (.int .i64 s.irq) := by simp
            have k2 : (wr.alloc (.cells #[.int .i64 s.state, .int .i64 s.irq, .int .i64 s.prio] 127)).cell? ⟨wr.heap.size, 2, none⟩ = some (.int .i64 s.prio) := by simp
            clear f0 f1 f2
            have hr2 := hrd.below hb2 hh
            have hh2 := Nat.le_trans hh hb2.size
            generalize wr.alloc _ = w2 at hb2 k0 k1 k2 hr2 hh2 ⊢
            have e0 := cell_ext k0; have e1 := cell_ext k1; have e2 := cell_ext k2
            have c4 := fun p => findSlot_any _ _ s.irq (ext w2 p) ((hr2.take_ hkn).below (below_ext w2 p) hh2) (Nat.le_trans hh2 (below_ext w2 p).size)
            refine wp_region_ext_all (by kernel_rfl) (by kernel_rfl) ?_
            repeat (go_big_quiet_step (first | (go_at_call 106; exact calls_ext0 ((c1 _).mono (fun _ _ h => ⟨h.1, h.2⟩))) | (go_at_call 129; exact calls_ext (c4 _))))
            refine wpQuiet_nil ?_
            intro w3 b3
            clear e0 e1 e2
            have hb3 := hb2.trans (b3.mono hb2.size)
            go_wp2_with fail
            go_ret
            exact ⟨ret_bool (by rw [HG.out, ← HF.out, HG.out]), hb3⟩
          · cases h2 : inB s.irq 0 7
            · have HF := Lib.hid (HN.out (by simp [Sl.okAt, h0, h2]))
              rw [h1] at c1
              rw [h2] at c2
              clear h1 h2 HN HY HI c3
              go_wp2_with fail
              have k0 : (wr.alloc (.cells #[.int .i64 s.state, .int .i64 s.irq, .int .i64 s.prio] 127)).cell? ⟨wr.heap.size, 0, none⟩ = some (.int .i64 s.state) := by simp
              have k1 : (wr.alloc (.cells #[.int .i64 s.state, .int .i64 s.irq, .int .i64 s.prio] 127)).cell? ⟨wr.heap.size, 1, none⟩ = some (.int .i64 s.irq) := by simp
              have k2 : (wr.alloc (.cells #[.int .i64 s.state, .int .i64 s.irq, .int .i64 s.prio] 127)).cell? ⟨wr.heap.size, 2, none⟩ = some (.int .i64 s.prio) := by simp
              clear f0 f1 f2
              have hr2 := hrd.below hb2 hh
              have hh2 := Nat.le_trans hh hb2.size
              generalize wr.alloc _ = w2 at hb2 k0 k1 k2 hr2 hh2 ⊢
              have e0 := cell_ext k0; have e1 := cell_ext k1; have e2 := cell_ext k2
              have c4 := fun p => findSlot_any _ _ s.irq (ext w2 p) ((hr2.take_ hkn).below (below_ext w2 p) hh2) (Nat.le_trans hh2 (below_ext w2 p).size)
              refine wp_region_ext_all (by kernel_rfl) (by kernel_rfl) ?_
              repeat (go_big_quiet_step (first | (go_at_call 106; exact calls_ext0 ((c1 _).mono (fun _ _ h => ⟨h.1, h.2⟩))) | (go_at_call 69; exact calls_ext0 (c2 _)) | (go_at_call 129; exact calls_ext (c4 _))))
              refine wpQuiet_nil ?_
              intro w3 b3
              clear e0 e1 e2
              have hb3 := hb2.trans (b3.mono hb2.size)
              go_wp2_with fail
              go_ret
              exact ⟨ret_bool (by rw [HG.out, ← HF.out, HG.out]), hb3⟩
            · cases h3 : inB s.prio 0 15
              · have HF := Lib.hid (HN.out (by simp [Sl.okAt, h0, h3]))
                rw [h1] at c1
                rw [h2] at c2
                rw [h3] at c3
                clear h1 h2 h3 HN HY HI
                go_wp2_with fail
                have k0 : (wr.alloc (.cells #[.int .i64 s.state, .int .i64 s.irq, .int .i64 s.prio] 127)).cell? ⟨wr.heap.size, 0, none⟩ = some (.int .i64 s.state) := by simp
                have k1 : (wr.alloc (.cells #[.int .i64 s.state, .int .i64 s.irq, .int .i64 s.prio] 127)).cell? ⟨wr.heap.size, 1, none⟩ = some (.int .i64 s.irq) := by simp
                have k2 : (wr.alloc (.cells #[.int .i64 s.state, .int .i64 s.irq, .int .i64 s.prio] 127)).cell? ⟨wr.heap.size, 2, none⟩ = some (.int .i64 s.prio) := by simp
                clear f0 f1 f2
                have hr2 := hrd.below hb2 hh
                have hh2 := Nat.le_trans hh hb2.size
                generalize wr.alloc _ = w2 at hb2 k0 k1 k2 hr2 hh2 ⊢
                have e0 := cell_ext k0; have e1 := cell_ext k1; have e2 := cell_ext k2
                have c4 := fun p => findSlot_any _ _ s.irq (ext w2 p) ((hr2.take_ hkn).below (below_ext w2 p) hh2) (Nat.le_trans hh2 (below_ext w2 p).size)
                refine wp_region_ext_all (by kernel_rfl) (by kernel_rfl) ?_
                repeat (go_big_quiet_step (first | (go_at_call 106; exact calls_ext0 ((c1 _).mono (fun _ _ h => ⟨h.1, h.2⟩))) | (go_at_call 69; exact calls_ext0 (c2 _)) | (go_at_call 70; exact calls_ext0 (c3 _)) | (go_at_call 129; exact calls_ext (c4 _))))
                refine wpQuiet_nil ?_
                intro w3 b3
                clear e0 e1 e2
                have hb3 := hb2.trans (b3.mono hb2.size)
                go_wp2_with fail
                go_ret
                exact ⟨ret_bool (by rw [HG.out, ← HF.out, HG.out]), hb3⟩
              · cases hq : (l.take k).any (Sl.has s.irq)
                · have HF := Lib.hid (HY.out (by simp only [Sl.okAt, if_neg h0, h1, h2, h3, hq]; rfl))
                  rw [h1] at c1
                  rw [h2] at c2
                  rw [h3] at c3
                  have hz0 : decide ((0 : Int) ≤ findIx (Sl.has s.irq) (l.take k)) = false := by rw [findIx_nonneg, hq]
                  clear h1 h2 h3 hq HN HY HI
                  go_wp2_with fail
                  have k0 : (wr.alloc (.cells #[.int .i64 s.state, .int .i64 s.irq, .int .i64 s.prio] 127)).cell? ⟨wr.heap.size, 0, none⟩ = some (.int .i64 s.state) := by simp
                  have k1 : (wr.alloc (.cells #[.int .i64 s.state, .int .i64 s.irq, .int .i64 s.prio] 127)).cell? ⟨wr.heap.size, 1, none⟩ = some (.int .i64 s.irq) := by simp
                  have k2 : (wr.alloc (.cells #[.int .i64 s.state, .int .i64 s.irq, .int .i64 s.prio] 127)).cell? ⟨wr.heap.size, 2, none⟩ = some (.int .i64 s.prio) := by simp
                  clear f0 f1 f2
                  have hr2 := hrd.below hb2 hh
                  have hh2 := Nat.le_trans hh hb2.size
                  generalize wr.alloc _ = w2 at hb2 k0 k1 k2 hr2 hh2 ⊢
                  have e0 := cell_ext k0; have e1 := cell_ext k1; have e2 := cell_ext k2
                  have c4 := fun p => findSlot_any _ _ s.irq (ext w2 p) ((hr2.take_ hkn).below (below_ext w2 p) hh2) (Nat.le_trans hh2 (below_ext w2 p).size)
                  generalize findIx (Sl.has s.irq) (l.take k) = z at c4 hz0
                  refine wp_region_ext_all (by kernel_rfl) (by kernel_rfl) ?_
                  repeat (go_big_quiet_step (first | (go_at_call 106; exact calls_ext0 ((c1 _).mono (fun _ _ h => ⟨h.1, h.2⟩))) | (go_at_call 69; exact calls_ext0 (c2 _)) | (go_at_call 70; exact calls_ext0 (c3 _)) | (go_at_call 129; exact calls_ext (c4 _))))
                  refine wpQuiet_nil ?_
                  intro w3 b3
                  clear e0 e1 e2
                  have hb3 := hb2.trans (b3.mono hb2.size)
                  go_wp2_with fail
                  go_roundw
                  case rel => exact ⟨k + 1, by omega, by go_num, hb3, HF.out⟩
                  case measure => simp [intOf]; omega
                · have HF := Lib.hid (HN.out (by simp only [Sl.okAt, if_neg h0, hq]; simp))
                  rw [h1] at c1
                  rw [h2] at c2
                  rw [h3] at c3
                  have hz0 : decide ((0 : Int) ≤ findIx (Sl.has s.irq) (l.take k)) = true := by rw [findIx_nonneg, hq]
                  clear h1 h2 h3 hq HN HY HI
                  go_wp2_with fail
                  have k0 : (wr.alloc (.cells #[.int .i64 s.state, .int .i64 s.irq, .int .i64 s.prio] 127)).cell? ⟨wr.heap.size, 0, none⟩ = some (.int .i64 s.state) := by simp
                  have k1 : (wr.alloc (.cells #[.int .i64 s.state, .int .i64 s.irq, .int .i64 s.prio] 127)).cell? ⟨wr.heap.size, 1, none⟩ = some (.int .i64 s.irq) := by simp
                  have k2 : (wr.alloc (.cells #[.int .i64 s.state, .int .i64 s.irq, .int .i64 s.prio] 127)).cell? ⟨wr.heap.size, 2, none⟩ = some (.int .i64 s.prio) := by simp
                  clear f0 f1 f2
                  have hr2 := hrd.below hb2 hh
                  have hh2 := Nat.le_trans hh hb2.size
                  generalize wr.alloc _ = w2 at hb2 k0 k1 k2 hr2 hh2 ⊢
                  have e0 := cell_ext k0; have e1 := cell_ext k1; have e2 := cell_ext k2
                  have c4 := fun p => findSlot_any _ _ s.irq (ext w2 p) ((hr2.take_ hkn).below (below_ext w2 p) hh2) (Nat.le_trans hh2 (below_ext w2 p).size)
                  generalize findIx (Sl.has s.irq) (l.take k) = z at c4 hz0
                  refine wp_region_ext_all (by kernel_rfl) (by kernel_rfl) ?_
                  repeat (go_big_quiet_step (first | (go_at_call 106; exact calls_ext0 ((c1 _).mono (fun _ _ h => ⟨h.1, h.2⟩))) | (go_at_call 69; exact calls_ext0 (c2 _)) | (go_at_call 70; exact calls_ext0 (c3 _)) | (go_at_call 129; exact calls_ext (c4 _))))
                  refine wpQuiet_nil ?_
                  intro w3 b3
                  clear e0 e1 e2
                  have hb3 := hb2.trans (b3.mono hb2.size)
                  go_wp2_with fail
                  go_ret
                  exact ⟨ret_bool (by rw [HG.out, ← HF.out, HG.out]), hb3⟩
      · have hkl : l.length ≤ k := by rw [← H.out]; omega
        have HF := Lib.hid (show Sl.good l = true from by rw [HG.out]; exact Sl.upTo_mono (by rw [← H.out]; omega) HE.out)
        go_wp2_with fail
        go_ret
        exact ⟨ret_bool HF.out.symm, hb⟩
  · have HF := Lib.hid (show Sl.good l = false from by have := H.out; simp only [Sl.good, Bool.and_eq_false_iff, decide_eq_false_iff_not]; left; omega)
    have h4' : ¬ (n : Int) = 4 := by omega
    go_enter Tryz.func152, Tryz.ntmps152
    go_wp2_with fail
    go_ret
    exact ⟨ret_bool HF.out.symm, Below.refl _ _⟩

end Go.Proofs.YtengaccnncnipaaGreat

/- Putting an interrupt into a slot and ending one, in the program and in the reference: the inner functions. Conditions: at most 1048576 slots; for ending: valid slots. -/
namespace Go.Proofs.YtengaccnncnipaaGreat
open Go.RowKit Go.ChangeShapes Go.WideShapes Go.Deep

theorem find_cases {α : Type} (p : α → Bool) (l : List α) : (findIx p l = -1 ∧ l.any p = false) ∨ ∃ (k : Nat) (s : α), findIx p l = k ∧ k < l.length ∧ l[k]? = some s ∧ p s = true := by
  cases h : l.any p
  · exact .inl ⟨by simp [findIx, h], rfl⟩
  · obtain ⟨k, x, h1, h2, h3, h4, _⟩ := findIx_spec h
    exact .inr ⟨k, x, h1, h2, h3, h4⟩
theorem Ow.lit0 {α : Type} {cells : α → List Value} {sz : Nat} {E : TypeId} {w : World} {lo hi : Nat} {A : Option Addr} : Ow cells sz E w lo hi (.slice A 0 0) [] :=
  ⟨A, 0, rfl, Nat.le_refl _, by unfold maxLen; omega, fun h => absurd h (by simp)⟩
def Sl.at_ (l : List Sl) (k : Int) : Sl := l.getD k.toNat default
theorem Sl.at_get {l : List Sl} {k : Nat} {s : Sl} (h : l[k]? = some s) : Sl.at_ l (k : Int) = s := by simp [Sl.at_, h]
def Sl.ix (l : List Sl) (i : Int) : Int := findIx (Sl.has i) l
def Sl.fx (l : List Sl) : Int := findIx Sl.free l
def Sl.both (s : Sl) : Sl := if s.state = 2 then ⟨3, s.irq, s.prio⟩ else s
def Sl.putOk (l : List Sl) (i : Int) : Bool := decide (0 ≤ Sl.ix l i) || decide (0 ≤ Sl.fx l)
def Sl.putR (l : List Sl) (i p : Int) : List Sl :=
  if 0 ≤ Sl.ix l i then l.set (Sl.ix l i).toNat (Sl.both (Sl.at_ l (Sl.ix l i))) else if 0 ≤ Sl.fx l then l.set (Sl.fx l).toNat ⟨1, i, p⟩ else []
theorem Sl.put_hit {l : List Sl} {i p : Int} {k : Nat} {s : Sl} (h : Sl.ix l i = k) (hs : l[k]? = some s) : Sl.putOk l i = true ∧ Sl.putR l i p = l.set k (Sl.both s) := by
  simp [Sl.putOk, Sl.putR, h, Sl.at_get hs]
theorem Sl.put_new {l : List Sl} {i p : Int} {k : Nat} (h : Sl.ix l i = -1) (hf : Sl.fx l = k) : Sl.putOk l i = true ∧ Sl.putR l i p = l.set k ⟨1, i, p⟩ := by
  simp [Sl.putOk, Sl.putR, h, hf]
theorem Sl.put_no {l : List Sl} {i p : Int} (h : Sl.ix l i = -1) (hf : Sl.fx l = -1) : Sl.putOk l i = false ∧ Sl.putR l i p = [] := by
  simp [Sl.putOk, Sl.putR, h, hf]
def Sl.ended (s : Sl) : Sl := if s.state = 2 then ⟨0, 0, 0⟩ else ⟨1, s.irq, s.prio⟩
def Sl.endOk (l : List Sl) (i : Int) : Bool := decide (0 ≤ Sl.ix l i) && !((Sl.at_ l (Sl.ix l i)).state == 1)
def Sl.endR (l : List Sl) (i : Int) : List Sl := if Sl.endOk l i then l.set (Sl.ix l i).toNat (Sl.ended (Sl.at_ l (Sl.ix l i))) else []
theorem Sl.end_hit {l : List Sl} {i : Int} {k : Nat} {s : Sl} (h : Sl.ix l i = k) (hs : l[k]? = some s) (h1 : ¬ s.state = 1) : Sl.endOk l i = true ∧ Sl.endR l i = l.set k (Sl.ended s) := by
  have : Sl.endOk l i = true := by simp [Sl.endOk, h, Sl.at_get hs, h1]
  exact ⟨this, by simp [Sl.endR, this, h, Sl.at_get hs]⟩
theorem Sl.end_no1 {l : List Sl} {i : Int} {k : Nat} {s : Sl} (h : Sl.ix l i = k) (hs : l[k]? = some s) (h1 : s.state = 1) : Sl.endOk l i = false ∧ Sl.endR l i = [] := by
  have : Sl.endOk l i = false := by simp [Sl.endOk, h, Sl.at_get hs, h1]
  exact ⟨this, by simp [Sl.endR, this]⟩
theorem Sl.end_no {l : List Sl} {i : Int} (h : Sl.ix l i = -1) : Sl.endOk l i = false ∧ Sl.endR l i = [] := by
  have : Sl.endOk l i = false := by simp [Sl.endOk, h]
  exact ⟨this, by simp [Sl.endR, this]⟩
theorem Sl.has_st {l : List Sl} (hg : Sl.good l = true) {k : Nat} {s : Sl} {i : Int} (hs : l[k]? = some s) (hp : Sl.has i s = true) : s.irq = i ∧ (s.state = 1 ∨ s.state = 2 ∨ s.state = 3) := by
  simp only [Sl.has, Bool.and_eq_true, Bool.not_eq_true', beq_eq_false_iff_ne, beq_iff_eq] at hp
  have h := Sl.good_one hg hs
  simp only [Sl.okAt, if_neg hp.1, Bool.and_eq_true] at h
  have := inB_true h.1
  exact ⟨hp.2, by omega⟩

set_option maxHeartbeats 1000000 in
theorem specWith_any (v : Value) (l : List Sl) (k : Nat) (x : Sl) (w : World) {lo hi : Nat} (h : Rd Sl.cells 3 w lo hi v l) (hh : hi ≤ w.heap.size) (hk : k < l.length) (hlen : l.length ≤ 1048576) :
    Calls Tryz.prog 175 #[v, .int .i64 k, x.val] w fun e w' => ∃ v', e = .returned v' ∧ Ow Sl.cells 3 127 w' w.heap.size w'.heap.size v' (l.set k x) ∧ Below w.heap.size w w' := by
  have hrd := h
  obtain ⟨A, n, c, rfl, H, hc, hm⟩ := h.form
  rw [← H.out] at hk hlen
  have HT := Lib.hid (show l[k]? = some (l[k]'(by rw [← H.out]; exact hk)) from List.getElem?_eq_getElem _)
  generalize l[k]'(by rw [← H.out]; exact hk) = t at HT
  have b1 := (Below.refl w.heap.size w).alloc (Nat.le_refl _) (.cells #[.int .i64 x.state, .int .i64 x.irq, .int .i64 x.prio] 127)
  have bcells : ∀ j u, (#[.int .i64 x.state, .int .i64 x.irq, .int .i64 x.prio] : Array Value)[j]? = some u → (w.alloc (.cells #[.int .i64 x.state, .int .i64 x.irq, .int .i64 x.prio] 127)).cell? ⟨w.heap.size, j, none⟩ = some u := fun j u hu => cell_new w _ _ rfl hu
  have HB := Lib.hid bcells
  have z1 : (w.alloc (.cells #[.int .i64 x.state, .int .i64 x.irq, .int .i64 x.prio] 127)).heap.size = w.heap.size + 1 := by simp
  clear bcells h
  unfold Sl.val
  go_enter Tryz.func175, Tryz.ntmps175
  go_wp2_with (at_builtin; (refine Sl.app_rd rfl _ _ rfl w.heap.size (.slice (some ⟨w.heap.size + 1, 0, none⟩) 0 0) 0 [] rfl (own_empty_at (w.alloc (.cells #[.int .i64 x.state, .int .i64 x.irq, .int .i64 x.prio] 127)) (base := w.heap.size) (g := w.heap.size + 1) 127 3 z1.symm (by omega)) rfl ((hrd.below b1 hh).below ((Below.refl _ _).alloc (Nat.le_refl _) _) (by omega)) (by omega) (by simp; omega) ?_); (intro v2 w2 hown hg2); (obtain ⟨g2, cap, rfl, hgb, hgl⟩ := hown.form (by omega)); (have hfz := hown.frozenAt); (have ow := Ow.of_own Sl.cells_len hown (l := l) (by simp) (by rw [← H.out]; omega)); (rw [Nat.zero_add] at ow); (obtain ⟨_, _, t', e, ht', _, hgl', q0, q1, q2⟩ := Sl.get ow.rd hk (Below.refl w2.heap.size w2) (Nat.le_refl _)); (injection e with e); (injection e with e1 e2); (subst e1); (subst e2); (simp only [Nat.zero_add] at q0 q1 q2); (have b2 : Below w.heap.size w w2 := ((b1.alloc b1.size _).grown hg2 (by have := b1.size; simp; omega) (by intro j hj; simp [Value.ownBlock] at hj; have := b1.size; omega))); (have bx : ∀ j u, (#[.int .i64 x.state, .int .i64 x.irq, .int .i64 x.prio] : Array Value)[j]? = some u → w2.cell? ⟨w.heap.size, j, none⟩ = some u := fun j u hu => hg2.cell (a := ⟨w.heap.size, j, none⟩) (by rw [World.cell?_alloc_lt _ _ _ (by simp)]; exact HB.out j u hu) (by simp [Value.ownBlock])); (have k0 := bx 0 _ rfl); (have k1 := bx 1 _ rfl); (have k2 := bx 2 _ rfl); (clear hown hg2 bx))
  go_ret
  generalize hw : World.setCell _ _ _ = w3
  obtain rfl : w3 = setL w2 g2 (k * 3) x.cells := hw.symm
  clear hw
  refine ⟨_, rfl, ?_, setL_below b2 x.cells g2 (k * 3) hgb⟩
  have hu : Upd 127 3 w2 (setL w2 g2 (0 + k * 3) x.cells) g2 (0 + k * 3) t.cells x.cells := Upd.of_setL 0 (ys := x.cells) rfl rfl (by simp [Sl.cells])
  have o3 := ow.upd Sl.cells_len (by omega) HT.out hu
  rw [Nat.zero_add] at o3
  exact o3.mono (Nat.le_refl _) (Nat.le_of_eq (setL_size _ w2 g2 (k * 3)).symm)


set_option maxHeartbeats 1000000 in
theorem implWith_any (v : Value) (l : List Sl) (k : Nat) (x : Sl) (w : World) {lo hi : Nat} (h : Rd Sl.cells 3 w lo hi v l) (hh : hi ≤ w.heap.size) (hk : k < l.length) (hlen : l.length ≤ 1048576) :
    Calls Tryz.prog 176 #[v, .int .i64 k, x.val] w fun e w' => ∃ v', e = .returned v' ∧ Ow Sl.cells 3 127 w' w.heap.size w'.heap.size v' (l.set k x) ∧ Below w.heap.size w w' := by
  have hrd := h
  obtain ⟨A, n, c, rfl, H, hc, hm⟩ := h.form
  rw [← H.out] at hk hlen
  have HT := Lib.hid (show l[k]? = some (l[k]'(by rw [← H.out]; exact hk)) from List.getElem?_eq_getElem _)
  generalize l[k]'(by rw [← H.out]; exact hk) = t at HT
  have b1 := (Below.refl w.heap.size w).alloc (Nat.le_refl _) (.cells #[.int .i64 x.state, .int .i64 x.irq, .int .i64 x.prio] 127)
  have bcells : ∀ j u, (#[.int .i64 x.state, .int .i64 x.irq, .int .i64 x.prio] : Array Value)[j]? = some u → (w.alloc (.cells #[.int .i64 x.state, .int .i64 x.irq, .int .i64 x.prio] 127)).cell? ⟨w.heap.size, j, none⟩ = some u := fun j u hu => cell_new w _ _ rfl hu
  have HB := Lib.hid bcells
  have z1 : (w.alloc (.cells #[.int .i64 x.state, .int .i64 x.irq, .int .i64 x.prio] 127)).heap.size = w.heap.size + 1 := by simp
  clear bcells h
  unfold Sl.val
  go_enter Tryz.func176, Tryz.ntmps176
  go_wp2_with (at_builtin; (refine Sl.app_rd rfl _ _ rfl w.heap.size (.slice (some ⟨w.heap.size + 1, 0, none⟩) 0 0) 0 [] rfl (own_empty_at (w.alloc (.cells #[.int .i64 x.state, .int .i64 x.irq, .int .i64 x.prio] 127)) (base := w.heap.size) (g := w.heap.size + 1) 127 3 z1.symm (by omega)) rfl ((hrd.below b1 hh).below ((Below.refl _ _).alloc (Nat.le_refl _) _) (by omega)) (by omega) (by simp; omega) ?_); (intro v2 w2 hown hg2); (obtain ⟨g2, cap, rfl, hgb, hgl⟩ := hown.form (by omega)); (have hfz := hown.frozenAt); (have ow := Ow.of_own Sl.cells_len hown (l := l) (by simp) (by rw [← H.out]; omega)); (rw [Nat.zero_add] at ow); (obtain ⟨_, _, t', e, ht', _, hgl', q0, q1, q2⟩ := Sl.get ow.rd hk (Below.refl w2.heap.size w2) (Nat.le_refl _)); (injection e with e); (injection e with e1 e2); (subst e1); (subst e2); (simp only [Nat.zero_add] at q0 q1 q2); (have b2 : Below w.heap.size w w2 := ((b1.alloc b1.size _).grown hg2 (by have := b1.size; simp; omega) (by intro j hj; simp [Value.ownBlock] at hj; have := b1.size; omega))); (have bx : ∀ j u, (#[.int .i64 x.state, .int .i64 x.irq, .int .i64 x.prio] : Array Value)[j]? = some u → w2.cell? ⟨w.heap.size, j, none⟩ = some u := fun j u hu => hg2.cell (a := ⟨w.heap.size, j, none⟩) (by rw [World.cell?_alloc_lt _ _ _ (by simp)]; exact HB.out j u hu) (by simp [Value.ownBlock])); (have k0 := bx 0 _ rfl); (have k1 := bx 1 _ rfl); (have k2 := bx 2 _ rfl); (clear hown hg2 bx))
  go_ret
  generalize hw : World.setCell _ _ _ = w3
  obtain rfl : w3 = setL w2 g2 (k * 3) x.cells := hw.symm
  clear hw
  refine ⟨_, rfl, ?_, setL_below b2 x.cells g2 (k * 3) hgb⟩
  have hu : Upd 127 3 w2 (setL w2 g2 (0 + k * 3) x.cells) g2 (0 + k * 3) t.cells x.cells := Upd.of_setL 0 (ys := x.cells) rfl rfl (by simp [Sl.cells])
  have o3 := ow.upd Sl.cells_len (by omega) HT.out hu
  rw [Nat.zero_add] at o3
  exact o3.mono (Nat.le_refl _) (Nat.le_of_eq (setL_size _ w2 g2 (k * 3)).symm)


theorem specFind_b (v : Value) (l : List Sl) (i : Int) (w : World) {lo hi : Nat} (h : Rd Sl.cells 3 w lo hi v l) (hh : hi ≤ w.heap.size) : Calls Tryz.prog 135 #[v, .int .i64 i] w fun e w' => e = .returned (.int .i64 (Sl.ix l i)) ∧ Below w.heap.size w w' :=
  (l8Find_any v l i w h hh).mono fun _ _ h => ⟨h.1, h.2 ▸ Below.refl _ _⟩
theorem implFind_b (v : Value) (l : List Sl) (i : Int) (w : World) {lo hi : Nat} (h : Rd Sl.cells 3 w lo hi v l) (hh : hi ≤ w.heap.size) : Calls Tryz.prog 129 #[v, .int .i64 i] w fun e w' => e = .returned (.int .i64 (Sl.ix l i)) ∧ Below w.heap.size w w' := findSlot_any v l i w h hh
theorem specFree_b (v : Value) (l : List Sl) (w : World) {lo hi : Nat} (h : Rd Sl.cells 3 w lo hi v l) (hh : hi ≤ w.heap.size) : Calls Tryz.prog 173 #[v] w fun e w' => e = .returned (.int .i64 (Sl.fx l)) ∧ Below w.heap.size w w' :=
  (l8Free_any v l w h hh).mono fun _ _ h => ⟨h.1, h.2 ▸ Below.refl _ _⟩
theorem implFree_b (v : Value) (l : List Sl) (w : World) {lo hi : Nat} (h : Rd Sl.cells 3 w lo hi v l) (hh : hi ≤ w.heap.size) : Calls Tryz.prog 155 #[v] w fun e w' => e = .returned (.int .i64 (Sl.fx l)) ∧ Below w.heap.size w w' := firstEmpty_any v l w h hh
theorem isActive_at (a b c : Int) (w : World) : Calls Tryz.prog 128 #[.agg #[.int .i64 a, .int .i64 b, .int .i64 c]] w fun e w' => e = .returned (.bool (a == 2 || a == 3)) ∧ Below w.heap.size w w' := by
  by_cases h2 : a = 2
  · subst h2
    go_enter Tryz.func128, Tryz.ntmps128
    go_wp2
    go_ret
    exact ⟨ret_bool (by simp), by go_grown⟩
  · by_cases h3 : a = 3
    · subst h3
      go_enter Tryz.func128, Tryz.ntmps128
      go_wp2
      go_ret
      exact ⟨ret_bool (by simp), by go_grown⟩
    · have HE := Lib.hid (show (a == 2 || a == 3) = false from by simp [h2, h3])
      go_enter Tryz.func128, Tryz.ntmps128
      go_wp2
      go_ret
      exact ⟨ret_bool (by rw [HE.out]; simp [h3]), by go_grown⟩
set_option maxHeartbeats 1000000 in
theorem specPut_in (v : Value) (l : List Sl) (i p : Int) (w : World) {lo hi : Nat} (h : Rd Sl.cells 3 w lo hi v l) (hh : hi ≤ w.heap.size) (hl : l.length ≤ 1048576) :
    Calls Tryz.prog 146 #[v, .int .i64 i, .int .i64 p] w fun r w' => ∃ v', r = .returned (.tuple #[v', .bool (Sl.putOk l i)]) ∧ Ow Sl.cells 3 127 w' w.heap.size w'.heap.size v' (Sl.putR l i p) ∧ Below w.heap.size w w' := by
  have c1 := specFind_b v l i w h hh
  have c2 := fun (W : World) (kb : Below w.heap.size w W) => specFree_b v l W (h.below kb hh) (Nat.le_trans hh kb.size)
  have c3 := fun (W : World) (kb : Below w.heap.size w W) (k : Nat) (s : Sl) (hk : k < l.length) => specWith_any v l k s W (h.below kb hh) (Nat.le_trans hh kb.size) hk hl
  have hrd := h
  obtain ⟨A, n, c, rfl, H, hc, hm⟩ := h.form
  rcases find_cases (Sl.has i) l with ⟨hf, _⟩ | ⟨k, s, hf, hk, hs, hp⟩
  · change Sl.ix l i = -1 at hf
    rw [hf] at c1
    rcases find_cases Sl.free l with ⟨hf2, _⟩ | ⟨k, s, hf2, hk, hs, hp⟩
    · change Sl.fx l = -1 at hf2
      rw [hf2] at c2
      have HF := Lib.hid (Sl.put_no (p := p) hf hf2)
      clear hf hf2 c3
      go_enter Tryz.func146, Tryz.ntmps146
      go_wp2_with fail
      refine c1.mono ?_; rintro q_ w1 ⟨rfl, b1⟩
      go_wp2_with fail
      refine (c2 _ b1).mono ?_; rintro q_ w2 ⟨rfl, b2⟩
      go_wp2_with fail
      go_ret2
      exact ⟨_, by rw [HF.out.1]; rfl, by rw [HF.out.2]; exact Ow.lit0, (b1.trans (b2.mono b1.size)).alloc (by have := b2.size; have := b1.size; omega) _⟩
    · change Sl.fx l = k at hf2
      rw [hf2] at c2
      have HF := Lib.hid (Sl.put_new (p := p) hf hf2)
      have c3 := fun W kb => c3 W kb k ⟨1, i, p⟩ hk
      unfold Sl.val at c3
      simp only at c3
      clear hf hf2 hs hp
      go_enter Tryz.func146, Tryz.ntmps146
      go_wp2_with fail
      refine c1.mono ?_; rintro q_ w1 ⟨rfl, b1⟩
      go_wp2_with fail
      refine (c2 _ b1).mono ?_; rintro q_ w2 ⟨rfl, b2⟩
      replace b1 := b1.trans (b2.mono b1.size)
      go_wp2_with fail
      refine (c3 _ b1).mono ?_; rintro q_ w3 ⟨v', rfl, o1, b3⟩
      have z3 := b1.size
      go_wp2_with fail
      go_ret2
      exact ⟨v', by rw [HF.out.1]; rfl, by rw [HF.out.2]; exact o1.mono z3 (Nat.le_refl _), b1.trans (b3.mono z3)⟩
  · change Sl.ix l i = k at hf
    rw [hf] at c1
    have HF := Lib.hid (Sl.put_hit (p := p) hf hs)
    have hkn : k < n := by rw [H.out]; exact hk
    have HT := Lib.hid hs
    clear hf hs hp c2
    by_cases h2 : s.state = 2
    · have HB := Lib.hid (show Sl.both s = ⟨3, s.irq, s.prio⟩ from by simp [Sl.both, h2])
      rw [HB.out] at HF
      have c3 := fun W kb => c3 W kb k ⟨3, s.irq, s.prio⟩ hk
      unfold Sl.val at c3
      simp only at c3
      go_enter Tryz.func146, Tryz.ntmps146
      go_wp2_with fail
      refine c1.mono ?_; rintro q_ w1 ⟨rfl, b1⟩
      obtain ⟨b, off, t, rfl, ht, _, hbl, f0, f1, f2⟩ := Sl.get hrd hkn b1 hh
      obtain rfl := Option.some.inj (HT.out.symm.trans ht.out)
      have hbw1 : b < w1.heap.size := by have := b1.size; omega
      rw [h2] at f0
      clear h2
      go_wp2_with fail
      refine (c3 _ ?bel).mono ?_
      case bel => first | exact (b1.alloc b1.size _) | exact setL_below (b1.alloc b1.size _) [_] _ _ b1.size
      rintro q_ w3 ⟨v', rfl, o1, b3⟩
      have z3 := b1.size
      go_wp2_with fail
      go_ret2
      exact ⟨v', by rw [HF.out.1]; rfl, by rw [HF.out.2]; exact o1.mono (by simp; omega) (Nat.le_refl _), (b1.alloc b1.size _).trans (b3.mono (by simp; omega))⟩
    · have HB := Lib.hid (show Sl.both s = s from by simp [Sl.both, h2])
      rw [HB.out] at HF
      have c3 := fun W kb => c3 W kb k s hk
      unfold Sl.val at c3
      go_enter Tryz.func146, Tryz.ntmps146
      go_wp2_with fail
      refine c1.mono ?_; rintro q_ w1 ⟨rfl, b1⟩
      obtain ⟨b, off, t, rfl, ht, _, hbl, f0, f1, f2⟩ := Sl.get hrd hkn b1 hh
      obtain rfl := Option.some.inj (HT.out.symm.trans ht.out)
      have hbw1 : b < w1.heap.size := by have := b1.size; omega
      go_wp2_with fail
      refine (c3 _ ?bel).mono ?_
      case bel => first | exact (b1.alloc b1.size _) | exact setL_below (b1.alloc b1.size _) [_] _ _ b1.size
      rintro q_ w3 ⟨v', rfl, o1, b3⟩
      have z3 := b1.size
      go_wp2_with fail
      go_ret2
      exact ⟨v', by rw [HF.out.1]; rfl, by rw [HF.out.2]; exact o1.mono (by simp; omega) (Nat.le_refl _), (b1.alloc b1.size _).trans (b3.mono (by simp; omega))⟩
set_option maxHeartbeats 1000000 in
theorem implPut_in (v : Value) (l : List Sl) (i p : Int) (w : World) {lo hi : Nat} (h : Rd Sl.cells 3 w lo hi v l) (hh : hi ≤ w.heap.size) (hl : l.length ≤ 1048576) :
    Calls Tryz.prog 149 #[v, .int .i64 i, .int .i64 p] w fun r w' => ∃ v', r = .returned (.tuple #[v', .bool (Sl.putOk l i)]) ∧ Ow Sl.cells 3 127 w' w.heap.size w'.heap.size v' (Sl.putR l i p) ∧ Below w.heap.size w w' := by
  have c1 := implFind_b v l i w h hh
  have c2 := fun (W : World) (kb : Below w.heap.size w W) => implFree_b v l W (h.below kb hh) (Nat.le_trans hh kb.size)
  have c3 := fun (W : World) (kb : Below w.heap.size w W) (k : Nat) (s : Sl) (hk : k < l.length) => implWith_any v l k s W (h.below kb hh) (Nat.le_trans hh kb.size) hk hl
  have hrd := h
  obtain ⟨A, n, c, rfl, H, hc, hm⟩ := h.form
  rcases find_cases (Sl.has i) l with ⟨hf, _⟩ | ⟨k, s, hf, hk, hs, hp⟩
  · change Sl.ix l i = -1 at hf
    rw [hf] at c1
    rcases find_cases Sl.free l with ⟨hf2, _⟩ | ⟨k, s, hf2, hk, hs, hp⟩
    · change Sl.fx l = -1 at hf2
      rw [hf2] at c2
      have HF := Lib.hid (Sl.put_no (p := p) hf hf2)
      clear hf hf2 c3
      go_enter Tryz.func149, Tryz.ntmps149
      go_wp2_with fail
      refine c1.mono ?_; rintro q_ w1 ⟨rfl, b1⟩
      go_wp2_with fail
      refine (c2 _ b1).mono ?_; rintro q_ w2 ⟨rfl, b2⟩
      go_wp2_with fail
      go_ret2
      exact ⟨_, by rw [HF.out.1]; rfl, by rw [HF.out.2]; exact Ow.nil_, b1.trans (b2.mono b1.size)⟩
    · change Sl.fx l = k at hf2
      rw [hf2] at c2
      have HF := Lib.hid (Sl.put_new (p := p) hf hf2)
      have c3 := fun W kb => c3 W kb k ⟨1, i, p⟩ hk
      unfold Sl.val at c3
      simp only at c3
      clear hf hf2 hs hp
      go_enter Tryz.func149, Tryz.ntmps149
      go_wp2_with fail
      refine c1.mono ?_; rintro q_ w1 ⟨rfl, b1⟩
      go_wp2_with fail
      refine (c2 _ b1).mono ?_; rintro q_ w2 ⟨rfl, b2⟩
      replace b1 := b1.trans (b2.mono b1.size)
      go_wp2_with fail
      refine (c3 _ b1).mono ?_; rintro q_ w3 ⟨v', rfl, o1, b3⟩
      have z3 := b1.size
      go_wp2_with fail
      go_ret2
      exact ⟨v', by rw [HF.out.1]; rfl, by rw [HF.out.2]; exact o1.mono z3 (Nat.le_refl _), b1.trans (b3.mono z3)⟩
  · change Sl.ix l i = k at hf
    rw [hf] at c1
    have HF := Lib.hid (Sl.put_hit (p := p) hf hs)
    have hkn : k < n := by rw [H.out]; exact hk
    have HT := Lib.hid hs
    clear hf hs hp c2
    by_cases h2 : s.state = 2
    · have HB := Lib.hid (show Sl.both s = ⟨3, s.irq, s.prio⟩ from by simp [Sl.both, h2])
      rw [HB.out] at HF
      have c3 := fun W kb => c3 W kb k ⟨3, s.irq, s.prio⟩ hk
      unfold Sl.val at c3
      simp only at c3
      go_enter Tryz.func149, Tryz.ntmps149
      go_wp2_with fail
      refine c1.mono ?_; rintro q_ w1 ⟨rfl, b1⟩
      obtain ⟨b, off, t, rfl, ht, _, hbl, f0, f1, f2⟩ := Sl.get hrd hkn b1 hh
      obtain rfl := Option.some.inj (HT.out.symm.trans ht.out)
      have hbw1 : b < w1.heap.size := by have := b1.size; omega
      rw [h2] at f0
      clear h2
      go_wp2_with fail
      refine (c3 _ ?bel).mono ?_
      case bel => first | exact (b1.alloc b1.size _) | exact setL_below (b1.alloc b1.size _) [_] _ _ b1.size
      rintro q_ w3 ⟨v', rfl, o1, b3⟩
      have z3 := b1.size
      go_wp2_with fail
      go_ret2
      exact ⟨v', by rw [HF.out.1]; rfl, by rw [HF.out.2]; exact o1.mono (by simp; omega) (Nat.le_refl _), (b1.alloc b1.size _).trans (b3.mono (by simp; omega))⟩
    · have HB := Lib.hid (show Sl.both s = s from by simp [Sl.both, h2])
      rw [HB.out] at HF
      have c3 := fun W kb => c3 W kb k s hk
      unfold Sl.val at c3
      go_enter Tryz.func149, Tryz.ntmps149
      go_wp2_with fail
      refine c1.mono ?_; rintro q_ w1 ⟨rfl, b1⟩
      obtain ⟨b, off, t, rfl, ht, _, hbl, f0, f1, f2⟩ := Sl.get hrd hkn b1 hh
      obtain rfl := Option.some.inj (HT.out.symm.trans ht.out)
      have hbw1 : b < w1.heap.size := by have := b1.size; omega
      go_wp2_with fail
      refine (c3 _ ?bel).mono ?_
      case bel => first | exact (b1.alloc b1.size _) | exact setL_below (b1.alloc b1.size _) [_] _ _ b1.size
      rintro q_ w3 ⟨v', rfl, o1, b3⟩
      have z3 := b1.size
      go_wp2_with fail
      go_ret2
      exact ⟨v', by rw [HF.out.1]; rfl, by rw [HF.out.2]; exact o1.mono (by simp; omega) (Nat.le_refl _), (b1.alloc b1.size _).trans (b3.mono (by simp; omega))⟩
set_option maxHeartbeats 1000000 in
theorem specEnd_in (v : Value) (l : List Sl) (i : Int) (w : World) {lo hi : Nat} (h : Rd Sl.cells 3 w lo hi v l) (hh : hi ≤ w.heap.size) (hg : Sl.good l = true) :
    Calls Tryz.prog 142 #[v, .int .i64 i] w fun r w' => ∃ v', r = .returned (.tuple #[v', .bool (Sl.endOk l i)]) ∧ Ow Sl.cells 3 127 w' w.heap.size w'.heap.size v' (Sl.endR l i) ∧ Below w.heap.size w w' := by
  have hl : l.length ≤ 1048576 := by rw [Sl.good_len hg]; decide
  have c1 := specFind_b v l i w h hh
  have c3 := fun (W : World) (kb : Below w.heap.size w W) (k : Nat) (s : Sl) (hk : k < l.length) => specWith_any v l k s W (h.below kb hh) (Nat.le_trans hh kb.size) hk hl
  have hrd := h
  obtain ⟨A, n, c, rfl, H, hc, hm⟩ := h.form
  rcases find_cases (Sl.has i) l with ⟨hf, _⟩ | ⟨k, s, hf, hk, hs, hp⟩
  · change Sl.ix l i = -1 at hf
    rw [hf] at c1
    have HF := Lib.hid (Sl.end_no hf)
    clear hf c3 hg
    go_enter Tryz.func142, Tryz.ntmps142
    go_wp2_with fail
    refine c1.mono ?_; rintro q_ w1 ⟨rfl, b1⟩
    go_wp2_with fail
    go_ret2
    exact ⟨_, by rw [HF.out.1]; rfl, by rw [HF.out.2]; exact Ow.lit0, b1.alloc b1.size _⟩
  · change Sl.ix l i = k at hf
    rw [hf] at c1
    have hkn : k < n := by rw [H.out]; exact hk
    have HT := Lib.hid hs
    obtain ⟨hirq, hst⟩ := Sl.has_st hg hs hp
    skip
    clear hp hg
    subst hirq
    rcases hst with hst | hst | hst
    · have HF := Lib.hid (Sl.end_no1 hf hs hst)
      skip
      clear hf hs c3
      go_enter Tryz.func142, Tryz.ntmps142
      go_wp2_with fail
      refine c1.mono ?_; rintro q_ w1 ⟨rfl, b1⟩
      obtain ⟨b, off, t, rfl, ht, _, hbl, f0, f1, f2⟩ := Sl.get hrd hkn b1 hh
      obtain rfl := Option.some.inj (HT.out.symm.trans ht.out)
      have hbw1 : b < w1.heap.size := by have := b1.size; omega
      rw [hst] at f0
      clear hst
      go_wp2_with fail
      go_ret2
      exact ⟨_, by rw [HF.out.1]; rfl, by rw [HF.out.2]; exact Ow.lit0, b1.alloc b1.size _⟩
    · have HF := Lib.hid (Sl.end_hit hf hs (by omega))
      have HB := Lib.hid (show Sl.ended s = ⟨0, 0, 0⟩ from by simp [Sl.ended, hst])
      rw [HB.out] at HF
      have c3 := fun W kb => c3 W kb k ⟨0, 0, 0⟩ hk
      unfold Sl.val at c3
      simp only at c3
      skip
      skip
      clear hf hs
      go_enter Tryz.func142, Tryz.ntmps142
      go_wp2_with fail
      refine c1.mono ?_; rintro q_ w1 ⟨rfl, b1⟩
      obtain ⟨b, off, t, rfl, ht, _, hbl, f0, f1, f2⟩ := Sl.get hrd hkn b1 hh
      obtain rfl := Option.some.inj (HT.out.symm.trans ht.out)
      have hbw1 : b < w1.heap.size := by have := b1.size; omega
      rw [hst] at f0
      clear hst
      go_wp2_with fail
      refine (c3 _ ?bel).mono ?_
      case bel => exact b1
      rintro q_ w3 ⟨v', rfl, o1, b3⟩
      have z3 := b1.size
      go_wp2_with fail
      go_ret2
      exact ⟨v', by rw [HF.out.1]; rfl, by rw [HF.out.2]; exact o1.mono z3 (Nat.le_refl _), b1.trans (b3.mono z3)⟩
    · have HF := Lib.hid (Sl.end_hit hf hs (by omega))
      have HB := Lib.hid (show Sl.ended s = ⟨1, s.irq, s.prio⟩ from by simp [Sl.ended, hst])
      rw [HB.out] at HF
      have c3 := fun W kb => c3 W kb k ⟨1, s.irq, s.prio⟩ hk
      unfold Sl.val at c3
      simp only at c3
      skip
      skip
      clear hf hs
      go_enter Tryz.func142, Tryz.ntmps142
      go_wp2_with fail
      refine c1.mono ?_; rintro q_ w1 ⟨rfl, b1⟩
      obtain ⟨b, off, t, rfl, ht, _, hbl, f0, f1, f2⟩ := Sl.get hrd hkn b1 hh
      obtain rfl := Option.some.inj (HT.out.symm.trans ht.out)
      have hbw1 : b < w1.heap.size := by have := b1.size; omega
      rw [hst] at f0
      clear hst
      go_wp2_with fail
      refine (c3 _ ?bel).mono ?_
      case bel => first | exact (b1.alloc b1.size _) | exact setL_below (b1.alloc b1.size _) [_] _ _ b1.size
      rintro q_ w3 ⟨v', rfl, o1, b3⟩
      have z3 := b1.size
      go_wp2_with fail
      go_ret2
      exact ⟨v', by rw [HF.out.1]; rfl, by rw [HF.out.2]; exact o1.mono (by simp; omega) (Nat.le_refl _), (b1.alloc b1.size _).trans (b3.mono (by simp; omega))⟩
set_option maxHeartbeats 1000000 in
theorem implEnd_in (v : Value) (l : List Sl) (i : Int) (w : World) {lo hi : Nat} (h : Rd Sl.cells 3 w lo hi v l) (hh : hi ≤ w.heap.size) (hg : Sl.good l = true) :
    Calls Tryz.prog 144 #[v, .int .i64 i] w fun r w' => ∃ v', r = .returned (.tuple #[v', .bool (Sl.endOk l i)]) ∧ Ow Sl.cells 3 127 w' w.heap.size w'.heap.size v' (Sl.endR l i) ∧ Below w.heap.size w w' := by
  have hl : l.length ≤ 1048576 := by rw [Sl.good_len hg]; decide
  have c1 := implFind_b v l i w h hh
  have c3 := fun (W : World) (kb : Below w.heap.size w W) (k : Nat) (s : Sl) (hk : k < l.length) => implWith_any v l k s W (h.below kb hh) (Nat.le_trans hh kb.size) hk hl
  have hrd := h
  obtain ⟨A, n, c, rfl, H, hc, hm⟩ := h.form
  rcases find_cases (Sl.has i) l with ⟨hf, _⟩ | ⟨k, s, hf, hk, hs, hp⟩
  · change Sl.ix l i = -1 at hf
    rw [hf] at c1
    have HF := Lib.hid (Sl.end_no hf)
    clear hf c3 hg
    go_enter Tryz.func144, Tryz.ntmps144
    go_wp2_with fail
    refine c1.mono ?_; rintro q_ w1 ⟨rfl, b1⟩
    go_wp2_with fail
    go_ret2
    exact ⟨_, by rw [HF.out.1]; rfl, by rw [HF.out.2]; exact Ow.nil_, b1⟩
  · change Sl.ix l i = k at hf
    rw [hf] at c1
    have hkn : k < n := by rw [H.out]; exact hk
    have HT := Lib.hid hs
    obtain ⟨hirq, hst⟩ := Sl.has_st hg hs hp
    have c4 := fun W => isActive_at s.state s.irq s.prio W
    clear hp hg
    subst hirq
    rcases hst with hst | hst | hst
    · have HF := Lib.hid (Sl.end_no1 hf hs hst)
      rw [hst] at c4
      clear hf hs c3
      go_enter Tryz.func144, Tryz.ntmps144
      go_wp2_with fail
      refine c1.mono ?_; rintro q_ w1 ⟨rfl, b1⟩
      obtain ⟨b, off, t, rfl, ht, _, hbl, f0, f1, f2⟩ := Sl.get hrd hkn b1 hh
      obtain rfl := Option.some.inj (HT.out.symm.trans ht.out)
      have hbw1 : b < w1.heap.size := by have := b1.size; omega
      rw [hst] at f0
      clear hst
      go_wp2_with fail
      refine (c4 _).mono ?_; rintro q_ w2 ⟨rfl, b2⟩
      replace b1 := b1.trans (b2.mono b1.size)
      go_wp2_with fail
      go_ret2
      exact ⟨_, by rw [HF.out.1]; rfl, by rw [HF.out.2]; exact Ow.nil_, b1⟩
    · have HF := Lib.hid (Sl.end_hit hf hs (by omega))
      have HB := Lib.hid (show Sl.ended s = ⟨0, 0, 0⟩ from by simp [Sl.ended, hst])
      rw [HB.out] at HF
      have c3 := fun W kb => c3 W kb k ⟨0, 0, 0⟩ hk
      unfold Sl.val at c3
      simp only at c3
      rw [hst] at c4
      skip
      clear hf hs
      go_enter Tryz.func144, Tryz.ntmps144
      go_wp2_with fail
      refine c1.mono ?_; rintro q_ w1 ⟨rfl, b1⟩
      obtain ⟨b, off, t, rfl, ht, _, hbl, f0, f1, f2⟩ := Sl.get hrd hkn b1 hh
      obtain rfl := Option.some.inj (HT.out.symm.trans ht.out)
      have hbw1 : b < w1.heap.size := by have := b1.size; omega
      rw [hst] at f0
      clear hst
      go_wp2_with fail
      refine (c4 _).mono ?_; rintro q_ w2 ⟨rfl, b2⟩
      replace f0 := (b2.cell (p := ⟨b, off + k * 3, none⟩) hbw1).trans f0
      replace f1 := (b2.cell (p := ⟨b, off + k * 3 + 1, none⟩) hbw1).trans f1
      replace f2 := (b2.cell (p := ⟨b, off + k * 3 + 2, none⟩) hbw1).trans f2
      replace hbw1 := Nat.lt_of_lt_of_le hbw1 b2.size
      replace b1 := b1.trans (b2.mono b1.size)
      clear b2
      go_wp2_with fail
      refine (c3 _ ?bel).mono ?_
      case bel => first | exact (b1.alloc b1.size _) | exact setL_below (b1.alloc b1.size _) [_] _ _ b1.size
      rintro q_ w3 ⟨v', rfl, o1, b3⟩
      have z3 := b1.size
      go_wp2_with fail
      go_ret2
      exact ⟨v', by rw [HF.out.1]; rfl, by rw [HF.out.2]; exact o1.mono (by simp; omega) (Nat.le_refl _), (b1.alloc b1.size _).trans (b3.mono (by simp; omega))⟩
    · have HF := Lib.hid (Sl.end_hit hf hs (by omega))
      have HB := Lib.hid (show Sl.ended s = ⟨1, s.irq, s.prio⟩ from by simp [Sl.ended, hst])
      rw [HB.out] at HF
      have c3 := fun W kb => c3 W kb k ⟨1, s.irq, s.prio⟩ hk
      unfold Sl.val at c3
      simp only at c3
      rw [hst] at c4
      skip
      clear hf hs
      go_enter Tryz.func144, Tryz.ntmps144
      go_wp2_with fail
      refine c1.mono ?_; rintro q_ w1 ⟨rfl, b1⟩
      obtain ⟨b, off, t, rfl, ht, _, hbl, f0, f1, f2⟩ := Sl.get hrd hkn b1 hh
      obtain rfl := Option.some.inj (HT.out.symm.trans ht.out)
      have hbw1 : b < w1.heap.size := by have := b1.size; omega
      rw [hst] at f0
      clear hst
      go_wp2_with fail
      refine (c4 _).mono ?_; rintro q_ w2 ⟨rfl, b2⟩
      replace f0 := (b2.cell (p := ⟨b, off + k * 3, none⟩) hbw1).trans f0
      replace f1 := (b2.cell (p := ⟨b, off + k * 3 + 1, none⟩) hbw1).trans f1
      replace f2 := (b2.cell (p := ⟨b, off + k * 3 + 2, none⟩) hbw1).trans f2
      replace hbw1 := Nat.lt_of_lt_of_le hbw1 b2.size
      replace b1 := b1.trans (b2.mono b1.size)
      clear b2
      go_wp2_with fail
      refine (c3 _ ?bel).mono ?_
      case bel => first | exact (b1.alloc b1.size _) | exact setL_below (b1.alloc b1.size _) [_] _ _ b1.size
      rintro q_ w3 ⟨v', rfl, o1, b3⟩
      have z3 := b1.size
      go_wp2_with fail
      go_ret2
      exact ⟨v', by rw [HF.out.1]; rfl, by rw [HF.out.2]; exact o1.mono (by simp; omega) (Nat.le_refl _), (b1.alloc b1.size _).trans (b3.mono (by simp; omega))⟩

end Go.Proofs.YtengaccnncnipaaGreat

/- Comparing two numbers as the library does. No condition. -/
namespace Go.Proofs.YtengaccnncnipaaGreat
open Go.RowKit Go.ChangeShapes Go.WideShapes Go.Deep

def cmpI (a b : Int) : Int := if a < b then -1 else if b < a then 1 else 0
theorem compare_any (a b : Int) (w : World) : Calls Tryz.prog 181 #[.int .i64 a, .int .i64 b] w fun e w' => e = .returned (.int .i64 (cmpI a b)) ∧ w' = w := by
  rcases Int.lt_trichotomy a b with h | h | h
  · have HC := Lib.hid (show cmpI a b = -1 from by simp [cmpI, h])
    go_enter Tryz.func181, Tryz.ntmps181
    go_wp2
    go_ret
    exact ⟨ret_int HC.out.symm, rfl⟩
  · subst h
    have HC := Lib.hid (show cmpI a a = 0 from by simp [cmpI])
    have h1 : ¬ a < a := by omega
    go_enter Tryz.func181, Tryz.ntmps181
    go_wp2
    go_ret
    exact ⟨ret_int HC.out.symm, rfl⟩
  · have h1 : ¬ a < b := by omega
    have HC := Lib.hid (show cmpI a b = 1 from by simp [cmpI, h, h1])
    go_enter Tryz.func181, Tryz.ntmps181
    go_wp2
    go_ret
    exact ⟨ret_int HC.out.symm, rfl⟩

end Go.Proofs.YtengaccnncnipaaGreat

/- Lists of 'int': their cells, and what the law text's own helpers do with them. No condition. -/
namespace Go.Proofs.YtengaccnncnipaaGreat
open Go.RowKit Go.ChangeShapes Go.WideShapes Go.Deep

def Nm.cells (x : Int) : List Value := [.int .i64 x]
theorem Nm.cells_len (x : Int) : (Nm.cells x).length = 1 := rfl
theorem Nm.info : (Tryz.prog.info? 3).map (fun i => (i.zero, i.size, i.bytes)) = some (some (.int .i64 0), 1, 8) := by kernel_rfl
theorem Nm.get {w : World} {lo hi : Nat} {A : Option Addr} {n c k : Nat} {l : List Int} (h : Rd Nm.cells 1 w lo hi (.slice A n c) l) (hk : k < n) {B : Nat} {wr : World} (hb : Below B w wr) (hB : hi ≤ B) :
    ∃ b off t, A = some ⟨b, off, none⟩ ∧ Hid (l[k]? = some t) ∧ lo ≤ b ∧ b < hi ∧ wr.cell? ⟨b, off + k, none⟩ = some (.int .i64 t) := by
  obtain ⟨b, off, t, hA, hx, h1, h2, h3⟩ := h.get hk hb hB
  exact ⟨b, off, t, hA, hx, h1, h2, by simpa using h3 0 _ rfl⟩
def Nm.eqL (a b : List Int) : Bool := decide (a = b)
theorem Nm.szS_any (v : Value) (l : List Int) (w : World) {lo hi : Nat} (h : Rd Nm.cells 1 w lo hi v l) (left : Int) (h0 : 0 ≤ left) (h1 : left ≤ 1048576) : Calls Tryz.prog 50 #[v, .int .i64 left] w fun e w' => e = .returned (.int .i64 (szL left l.length)) ∧ w = w' := by
  obtain ⟨A, n, c, rfl, hn, hc, hm⟩ := h.form
  rw [← hn.out]
  by_cases hlt : left - n < 0
  · have H := Lib.hid (show szL left n = -1 from by simp [szL, hlt])
    go_enter Tryz.func50, Tryz.ntmps50
    go_wp2
    go_ret
    exact ⟨ret_int H.out.symm, rfl⟩
  · have H := Lib.hid (show szL left n = left - n from by simp [szL, hlt])
    go_enter Tryz.func50, Tryz.ntmps50
    go_wp2
    go_ret
    exact ⟨ret_int H.out.symm, rfl⟩
theorem Nm.toS_any (v : Value) (l : List Int) (w : World) {lo hi : Nat} (h : Rd Nm.cells 1 w lo hi v l) (hlo : hi ≤ w.heap.size) (hl : l.length ≤ 1048576) :
    Calls Tryz.prog 55 #[v] w fun e w' => ∃ v', e = .returned v' ∧ Ow Nm.cells 1 3 w' w.heap.size w'.heap.size v' l ∧ Below w.heap.size w w' := by
  obtain ⟨A, n, c, rfl, H, hc, hm⟩ := h.form
  rw [← H.out] at hl
  obtain ⟨i0, hi0, hz0, hz1, hz2⟩ := info_parts Nm.info
  have hmk := make_new (P := Tryz.prog) Tryz.underlying22 hi0 hz0 n hl (by omega)
  rw [hz1] at hmk
  simp only [Nat.mul_one] at hmk
  obtain ⟨cur, hcur, hcs⟩ := heap_made w (Value.cells (.int .i64 0)) n 3
  have hb0 := (Below.refl w.heap.size w).alloc (Nat.le_refl _) (.cells (madeCells (Value.cells (.int .i64 0)) n) 3)
  have hp0 : Part Nm.cells 1 3 _ w.heap.size 0 n [] := Part.start cur hcur (by omega)
  clear hcur hcs
  go_enter Tryz.func55, Tryz.ntmps55
  go_wp2
  simp only [Value.cells] at hb0 hp0
  generalize w.alloc _ = w0 at hb0 hp0 ⊢
  go_loopw [4] (fun i wr => ∃ k : Nat, k ≤ n ∧ i = .int .i64 k ∧ Below w.heap.size w wr ∧ Part Nm.cells 1 3 wr w.heap.size 0 n (l.take k)) (fun i _ => n - (intOf i).toNat)
  case atStart => exact ⟨0, Nat.zero_le _, rfl, hb0, hp0⟩
  case round =>
    clear hb0 hp0
    obtain ⟨k, hk, rfl, hb, hp⟩ := hrel
    by_cases hlt : k < n
    · obtain ⟨b, off, t, rfl, ht, _, hbw, f0⟩ := Nm.get h hlt hb hlo
      have hfz := hp.frozen
      obtain ⟨o0, g0⟩ := hp.cell1 hlt
      go_wp2_with fail
      go_roundw
      case rel =>
        refine ⟨k + 1, by omega, by go_num, setL_below hb (Nm.cells t) w.heap.size k (Nat.le_refl _), ?_⟩
        have hlen : (l.take k).length = k := by rw [List.length_take, ← H.out]; omega
        rw [List.take_add_one, ht.out]
        exact hp.set (by omega) t (Nm.cells t) rfl rfl Nm.cells_len (by rw [hlen]; omega)
      case measure => simp [intOf]; omega
    · go_wp2
      go_ret
      have hkn : k = n := by omega
      subst hkn
      rw [List.take_of_length_le (by rw [← H.out]; omega)] at hp
      exact ⟨_, rfl, hp.ow H.out.symm (Nat.le_refl _) hp.lt (Nat.le_refl _) (by unfold maxLen; omega), hb⟩
theorem Nm.eqS_any (v1 v2 : Value) (l1 l2 : List Int) (w : World) {lo1 hi1 lo2 hi2 : Nat} (h1 : Rd Nm.cells 1 w lo1 hi1 v1 l1) (h2 : Rd Nm.cells 1 w lo2 hi2 v2 l2) (hh1 : hi1 ≤ w.heap.size) (hh2 : hi2 ≤ w.heap.size) :
    Calls Tryz.prog 27 #[v1, v2] w fun e w' => e = .returned (.bool (Nm.eqL l1 l2)) ∧ Below w.heap.size w w' := by
  obtain ⟨A, n, c, rfl, H1, hc1, hm1⟩ := h1.form
  obtain ⟨B, m, d, rfl, H2, hc2, hm2⟩ := h2.form
  by_cases hne : n = m
  · subst hne
    go_enter Tryz.func27, Tryz.ntmps27
    go_wp2_with fail
    go_loopw [5] (fun i wr => ∃ k : Nat, k ≤ n ∧ i = .int .i64 k ∧ Below w.heap.size w wr ∧ l1.take k = l2.take k) (fun i _ => n - (intOf i).toNat)
    case atStart => exact ⟨0, Nat.zero_le _, rfl, Below.refl _ _, rfl⟩
    case round =>
      obtain ⟨k, hk, rfl, hb, he⟩ := hrel
      have HE := Lib.hid he
      clear he
      by_cases hlt : k < n
      · obtain ⟨b, off, x, rfl, hx, _, _, f0⟩ := Nm.get h1 hlt hb hh1
        obtain ⟨b', off', y, rfl, hy, _, _, g0⟩ := Nm.get h2 hlt hb hh2
        by_cases hq : x = y
        · subst hq
          go_wp2_with fail
          go_quiet (fail)
          go_wp2_with fail
          go_roundw
          case rel => exact ⟨k + 1, by omega, by go_num, below_drewN hb _, by rw [List.take_add_one, List.take_add_one, HE.out, hx.out, hy.out]⟩
          case measure => simp [intOf]; omega
        · have hne : l1 ≠ l2 := by
            rintro rfl
            exact hq (Option.some.inj (hx.out.symm.trans hy.out))
          have HF := Lib.hid (show Nm.eqL l1 l2 = false from by simp [Nm.eqL, hne])
          have hq1 : (x == y) = false := by simpa using hq
          have hq2 : (x != y) = true := by simpa using hq
          clear hne
          go_wp2_with fail
          go_quiet (fail)
          go_wp2_with fail
          go_ret
          exact ⟨ret_bool HF.out.symm, below_drewN hb _⟩
      · go_wp2_with fail
        go_ret
        refine ⟨ret_bool ?_, hb⟩
        have he := HE.out
        rw [List.take_of_length_le (by rw [← H1.out]; omega), List.take_of_length_le (by rw [← H2.out]; omega)] at he
        simp [Nm.eqL, he]
  · have HF := Lib.hid (show Nm.eqL l1 l2 = false from by
      have : l1 ≠ l2 := by rintro rfl; exact hne (H1.out.trans H2.out.symm)
      simp [Nm.eqL, this])
    go_enter Tryz.func27, Tryz.ntmps27
    go_wp2_with fail
    go_ret
    exact ⟨ret_bool HF.out.symm, Below.refl _ _⟩
theorem Nm.eqS_same (v1 v2 : Value) (l : List Int) (w : World) {lo1 hi1 lo2 hi2 : Nat} (h1 : Rd Nm.cells 1 w lo1 hi1 v1 l) (h2 : Rd Nm.cells 1 w lo2 hi2 v2 l) (hh1 : hi1 ≤ w.heap.size) (hh2 : hi2 ≤ w.heap.size) :
    Calls Tryz.prog 27 #[v1, v2] w fun e w' => e = .returned (.bool true) ∧ Below w.heap.size w w' := by
  have h := Nm.eqS_any v1 v2 l l w h1 h2 hh1 hh2
  rwa [show Nm.eqL l l = true from by simp [Nm.eqL]] at h

theorem Nm.one (y : Int) (u : Value) (h : u ∈ Nm.cells y) : u.oneCell' = true := by
  simp only [Nm.cells, List.mem_cons, List.not_mem_nil, or_false] at h
  subst h; rfl
theorem Nm.app_rd {w : World} {ops : Array Oper} {rest : List Oper} {o : Oper} {a : Act} {Q : Exit → Act → World → Prop} (hgd : o.guard = none) (s x : Operand)
    (ho : o.op = .call { callee := .builtin .append, args := #[s, x], argTypes := #[22, 22] }) (base : Nat)
    (v : Value) (n : Nat) (xs : List Value) (hs : a.eval s = v) (hown : w.ownsRow base 3 1 v n xs) {lo hi m c : Nat} {A : Option Addr} {l : List Int} (hx : a.eval x = .slice A m c) (hr : Rd Nm.cells 1 w lo hi (.slice A m c) l)
    (hlen : n + m ≤ 4194304) (hbase : base ≤ w.heap.size)
    (h : ∀ v' w', w'.ownsRow base 3 1 v' (n + m) (xs ++ l.flatMap Nm.cells) → w.grownBy w' v.ownBlock → wpList Tryz.prog ops Q rest (a.put o.dst v') w') : wpList Tryz.prog ops Q (o :: rest) a w := by
  obtain ⟨i0, hi0, hz0, hz1, hz2⟩ := info_parts Nm.info
  exact wp_app_rd hgd s x _ ho base _ i0 _ 1 _ Tryz.underlying22 hi0 hz0 hz1 hz2 rfl (by omega) Nm.cells_len Nm.one v n xs hs hown hx hr (by unfold maxLen; omega) (by omega) hbase h
theorem Nm.app_one {w : World} {ops : Array Oper} {rest : List Oper} {o : Oper} {a : Act} {Q : Exit → Act → World → Prop} (hgd : o.guard = none) (s x : Operand)
    (ho : o.op = .call { callee := .builtin .append, args := #[s, x], argTypes := #[22, 22] }) (base : Nat)
    (v : Value) (n : Nat) (xs : List Value) (hs : a.eval s = v) (hown : w.ownsRow base 3 1 v n xs) {g c : Nat} (y : Int) (hx : a.eval x = .slice (some ⟨g, 0, none⟩) 1 c) (hr : ∀ j u, (Nm.cells y)[j]? = some u → w.cell? ⟨g, j, none⟩ = some u)
    (hlen : n ≤ 4194304) (hbase : base ≤ w.heap.size)
    (h : ∀ v' w', w'.ownsRow base 3 1 v' (n + 1) (xs ++ Nm.cells y) → w.grownBy w' v.ownBlock → wpList Tryz.prog ops Q rest (a.put o.dst v') w') : wpList Tryz.prog ops Q (o :: rest) a w := by
  obtain ⟨i0, hi0, hz0, hz1, hz2⟩ := info_parts Nm.info
  exact wpList_append_own w hgd s x _ ho base _ i0 _ 1 _ Tryz.underlying22 hi0 hz0 hz1 hz2 rfl (by omega) v n xs hs hown ⟨g, 0, none⟩ 1 c (Nm.cells y) hx (by rw [Nm.cells_len]) (fun j u hu => by rw [Go.WideShapes.add_plain, Nat.zero_add]; exact hr j u hu) (Nm.one y) (by unfold maxLen; omega) (by omega) hbase
    fun v' w' h1 h2 _ => h v' w' h1 h2

def Nm.mark (k : Int) : Int := k
def Nm.markL (k : Int) (n : Nat) : List Int := (List.range n).map fun (i : Nat) => Nm.mark (k + i)
theorem Nm.markL_len (k : Int) (n : Nat) : (Nm.markL k n).length = n := by simp [Nm.markL]
theorem Nm.markL_succ (k : Int) (n : Nat) : Nm.markL k (n + 1) = Nm.markL k n ++ [Nm.mark (k + n)] := by simp [Nm.markL, List.range_succ]

theorem Nm.markS_any (v : Value) (l : List Int) (w : World) {lo hi : Nat} (h : Ow Nm.cells 1 3 w lo hi v l) (k0 : Int) (h0 : 0 ≤ k0) (h1 : k0 ≤ 1099511627776) (hl : l.length ≤ 1048576) :
    Calls Tryz.prog 30 #[v, .int .i64 k0] w fun e w' => e = .returned (.int .i64 (k0 + l.length)) ∧ Ow Nm.cells 1 3 w' lo hi v (Nm.markL k0 l.length) ∧ Turned w w' v l.length := by
  obtain ⟨A, n, c, rfl, H, hc, hm⟩ := h.form
  rw [← H.out] at hl ⊢
  go_enter Tryz.func30, Tryz.ntmps30
  go_wp2_with fail
  go_loopw [1, 5] (fun q i wr => ∃ k : Nat, k ≤ n ∧ i = .int .i64 k ∧ q = .int .i64 (k0 + k) ∧ (0 < n → ∃ g off, A = some ⟨g, off, none⟩ ∧ lo ≤ g ∧ g < hi ∧ Part Nm.cells 1 3 wr g off n (Nm.markL k0 k) ∧ w.grownBy wr (some g)) ∧ (n = 0 → wr = w)) (fun _ i _ => n - (intOf i).toNat)
  case atStart =>
    refine ⟨0, Nat.zero_le _, rfl, by simp, fun hn => ?_, fun _ => rfl⟩
    obtain ⟨g, off, hA, hg1, hg2, hp⟩ := h.part Nm.cells_len (by omega) hn
    exact ⟨g, off, hA, hg1, hg2, by simpa [Nm.markL] using hp, World.grownBy.refl w _⟩
  case round =>
    obtain ⟨k, hk, rfl, rfl, hp, hn0⟩ := hrel
    by_cases hlt : k < n
    · obtain ⟨g, off, rfl, hg1, hg2, hp, hg⟩ := hp (by omega)
      have hfz := hp.frozen
      obtain ⟨o0, g0⟩ := hp.cell1o hlt
      clear hn0
      go_wp2_with fail
      go_roundw
      case rel =>
        refine ⟨k + 1, by omega, by go_num, by go_num, fun _ => ⟨g, off, rfl, hg1, hg2, ?_, ?_⟩, fun h => by omega⟩
        · rw [Nm.markL_succ]
          exact hp.set (by rw [Nm.markL_len]; exact hlt) _ (Nm.cells (Nm.mark (k0 + k))) rfl rfl Nm.cells_len (by rw [Nm.markL_len]; omega)
        · exact grown_trans hg (setL_grown (Nm.cells (Nm.mark (k0 + k))) wr g (off + k))
      case measure => simp [intOf]; omega
    · have hkn : k = n := by omega
      subst hkn
      go_wp2_with fail
      go_ret
      rcases Nat.eq_zero_or_pos k with hz | hz
      · subst hz
        have hl0 : l = [] := List.eq_nil_of_length_eq_zero H.out.symm
        subst hl0
        rw [hn0 rfl]
        exact ⟨rfl, h, Turned.refl _ _ _⟩
      · obtain ⟨g, off, rfl, hg1, hg2, hp, hg⟩ := hp hz
        exact ⟨rfl, hp.ow (Nm.markL_len _ _) hg1 hg2 hc (by unfold maxLen; omega), ⟨some g, hg, fun g' e => ⟨hz, by simpa [Value.ownBlock] using e⟩⟩⟩
theorem Nm.heldS_any (v : Value) (w : World) {lo hi n : Nat} {k0 : Int} (h : Rd Nm.cells 1 w lo hi v (Nm.markL k0 n)) (h0 : 0 ≤ k0) (h1 : k0 ≤ 1099511627776) (hl : n ≤ 1048576) :
    Calls Tryz.prog 31 #[v, .int .i64 k0] w fun e w' => e = .returned (.int .i64 (k0 + n)) ∧ w = w' := by
  obtain ⟨A, m, c, rfl, H, hc, hm⟩ := h.form
  have H := H.out
  rw [Nm.markL_len] at H
  subst H
  go_enter Tryz.func31, Tryz.ntmps31
  go_wp2_with fail
  go_loop [1, 5] (fun q i => ∃ k : Nat, k ≤ m ∧ i = .int .i64 k ∧ q = .int .i64 (k0 + k)) (fun _ i => m - (intOf i).toNat)
  case atStart => exact ⟨0, Nat.zero_le _, rfl, by simp⟩
  case round =>
    obtain ⟨k, hk, rfl, rfl⟩ := hrel
    by_cases hlt : k < m
    · obtain ⟨b, off, t, rfl, ht, _, hbw, f0⟩ := Nm.get h hlt (Below.refl hi w) (Nat.le_refl _)
      have ht := ht.out
      simp only [Nm.markL, List.getElem?_map, List.getElem?_range hlt, Option.map_some, Option.some.injEq] at ht
      subst ht
      simp only [Nm.mark] at f0
      go_wp2_with fail
      go_round
      case rel => exact ⟨k + 1, by omega, by go_num, by go_num⟩
      case measure => simp [intOf]; omega
    · have hkn : k = m := by omega
      subst hkn
      go_wp2_with fail
      go_ret
      exact ⟨rfl, rfl⟩

end Go.Proofs.YtengaccnncnipaaGreat

/- The type 'Waiter' of the law text and of the program: its data, its cells, and what the law text's own helpers do with lists of it. No condition. -/
namespace Go.Proofs.YtengaccnncnipaaGreat
open Go.RowKit Go.ChangeShapes Go.WideShapes Go.Deep

structure Wt where
  irq : Int
  prio : Int
  deriving DecidableEq, Inhabited

def Wt.cells (t : Wt) : List Value := [.int .i64 t.irq, .int .i64 t.prio]
def Wt.val (t : Wt) : Value := .agg #[.int .i64 t.irq, .int .i64 t.prio]
def Wt.zero : Wt := ⟨0, 0⟩
theorem Wt.cells_len (t : Wt) : t.cells.length = 2 := rfl
theorem Wt.info : (Tryz.prog.info? 134).map (fun i => (i.zero, i.size, i.bytes)) = some (some (.agg #[.int .i64 0, .int .i64 0]), 2, 16) := by kernel_rfl
theorem Wt.get {w : World} {lo hi : Nat} {A : Option Addr} {n c k : Nat} {l : List Wt} (h : Rd Wt.cells 2 w lo hi (.slice A n c) l) (hk : k < n) {B : Nat} {wr : World} (hb : Below B w wr) (hB : hi ≤ B) :
    ∃ b off t, A = some ⟨b, off, none⟩ ∧ Hid (l[k]? = some t) ∧ lo ≤ b ∧ b < hi ∧ wr.cell? ⟨b, off + k * 2, none⟩ = some (.int .i64 t.irq) ∧ wr.cell? ⟨b, off + k * 2 + 1, none⟩ = some (.int .i64 t.prio) := by
  obtain ⟨b, off, t, hA, hx, h1, h2, h3⟩ := h.get hk hb hB
  exact ⟨b, off, t, hA, hx, h1, h2, h3 0 _ rfl, h3 1 _ rfl⟩
def Wt.eqB (x y : Wt) : Bool := x.irq == y.irq && (x.prio == y.prio)
theorem Wt.eqB_iff (x y : Wt) : x.eqB y = true ↔ x = y := by
  cases x; cases y; simp [Wt.eqB]
def Wt.eqL (a b : List Wt) : Bool := decide (a = b)
theorem Wt.cellsOfLaw : Tryz.prog.cellsOf 136 = 2 := by kernel_rfl
theorem Wt.index_any (g : FuncId) (lb : Array Value) (p : Wt → Bool) (v : Value) (l : List Wt) (w : World) {lo hi : Nat} (h : Rd Wt.cells 2 w lo hi v l) (hh : hi ≤ w.heap.size)
    (eg : ∀ args w, (callFunc g args).run Tryz.prog w = .ok (.enter g args) w)
    (hp : ∀ (t : Wt) (W : World), t ∈ l → Below w.heap.size w W → Calls Tryz.prog g (#[t.val] ++ lb) W fun e w' => e = .returned (.bool (p t)) ∧ Below W.heap.size W w') :
    Calls Tryz.prog 177 #[v, .func (.func g) #[] lb] w fun e w' => e = .returned (.int .i64 (findIx p l)) ∧ Below w.heap.size w w' := by
  obtain ⟨A, n, c, rfl, H, hc, hm⟩ := h.form
  unfold Wt.val at hp
  have HP := Lib.hid hp
  clear hp
  go_enter Tryz.func177, Tryz.ntmps177
  go_wp2_with fail
  go_loopw [8] (fun i wr => ∃ k : Nat, k ≤ n ∧ i = .int .i64 k ∧ Below w.heap.size w wr ∧ (l.take k).any p = false) (fun i _ => n - (intOf i).toNat)
  case atStart => exact ⟨0, Nat.zero_le _, rfl, Below.refl _ _, by simp⟩
  case round =>
    obtain ⟨k, hk, rfl, hb, he⟩ := hrel
    have HE := Lib.hid he
    clear he
    by_cases hlt : k < n
    · obtain ⟨b, off, x, rfl, hx, _, _, f0, f1⟩ := Wt.get h hlt hb hh
      have c1 := HP.out x wr (List.mem_of_getElem? hx.out) hb
      cases hq : p x
      · rw [hq] at c1
        have HF := Lib.hid hq
        clear hq
        go_wp2_with fail
        refine c1.mono ?_; rintro e w1 ⟨rfl, hb1⟩
        go_wp2_with fail
        go_roundw
        case rel => exact ⟨k + 1, by omega, by go_num, hb.trans (hb1.mono hb.size), by rw [List.take_add_one, List.any_append, HE.out, hx.out]; simp [HF.out]⟩
        case measure => simp [intOf]; omega
      · rw [hq] at c1
        have HF := Lib.hid (findIx_hit HE.out hx.out hq)
        clear hq
        go_wp2_with fail
        refine c1.mono ?_; rintro e w1 ⟨rfl, hb1⟩
        go_wp2_with fail
        go_ret
        exact ⟨ret_int HF.out.symm, hb.trans (hb1.mono hb.size)⟩
    · go_wp2_with fail
      go_ret
      have he := HE.out
      rw [List.take_of_length_le (by rw [← H.out]; omega)] at he
      exact ⟨ret_int (by simp [findIx, he]), hb⟩

theorem Wt.to_any (t : Wt) (w : World) : Calls Tryz.prog 137 #[t.val] w fun e w' => e = .returned t.val ∧ Below w.heap.size w w' := by
  unfold Wt.val
  go_enter Tryz.func137, Tryz.ntmps137
  go_wp2
  go_returns
  exact ⟨rfl, by go_grown⟩
theorem Wt.eq_any (x y : Wt) (w : World) : Calls Tryz.prog 139 #[x.val, y.val] w fun e w' => e = .returned (.bool (x.eqB y)) ∧ Below w.heap.size w w' := by
  unfold Wt.val
  go_enter Tryz.func139, Tryz.ntmps139
  go_wp2
  all_goals (go_ret; exact ⟨ret_bool (by simp_all [Wt.eqB]), by go_grown⟩)
theorem Wt.szS_any (v : Value) (l : List Wt) (w : World) {lo hi : Nat} (h : Rd Wt.cells 2 w lo hi v l) (left : Int) (h0 : 0 ≤ left) (h1 : left ≤ 1048576) : Calls Tryz.prog 97 #[v, .int .i64 left] w fun e w' => e = .returned (.int .i64 (szL left l.length)) ∧ w = w' := by
  obtain ⟨A, n, c, rfl, hn, hc, hm⟩ := h.form
  rw [← hn.out]
  by_cases hlt : left - n < 0
  · have H := Lib.hid (show szL left n = -1 from by simp [szL, hlt])
    go_enter Tryz.func97, Tryz.ntmps97
    go_wp2
    go_ret
    exact ⟨ret_int H.out.symm, rfl⟩
  · have H := Lib.hid (show szL left n = left - n from by simp [szL, hlt])
    go_enter Tryz.func97, Tryz.ntmps97
    go_wp2
    go_ret
    exact ⟨ret_int H.out.symm, rfl⟩
theorem Wt.toS_any (v : Value) (l : List Wt) (w : World) {lo hi : Nat} (h : Rd Wt.cells 2 w lo hi v l) (hlo : hi ≤ w.heap.size) (hl : l.length ≤ 1048576) :
    Calls Tryz.prog 105 #[v] w fun e w' => ∃ v', e = .returned v' ∧ Ow Wt.cells 2 134 w' w.heap.size w'.heap.size v' l ∧ Below w.heap.size w w' := by
  obtain ⟨A, n, c, rfl, H, hc, hm⟩ := h.form
  rw [← H.out] at hl
  obtain ⟨i0, hi0, hz0, hz1, hz2⟩ := info_parts Wt.info
  have hmk := make_new (P := Tryz.prog) Tryz.underlying31 hi0 hz0 n hl (by omega)
  rw [hz1] at hmk
  have c1 := fun t => Wt.to_any t
  unfold Wt.val at c1
  obtain ⟨cur, hcur, hcs⟩ := heap_made w (Value.agg #[.int .i64 0, .int .i64 0]).cells (n * 2) 134
  have hb0 := (Below.refl w.heap.size w).alloc (Nat.le_refl _) (.cells (madeCells (Value.agg #[.int .i64 0, .int .i64 0]).cells (n * 2)) 134)
  have hp0 : Part Wt.cells 2 134 _ w.heap.size 0 n [] := Part.start cur hcur (by omega)
  clear hcur hcs
  go_enter Tryz.func105, Tryz.ntmps105
  go_wp2
  simp only [Value.cells] at hb0 hp0
  generalize w.alloc _ = w0 at hb0 hp0 ⊢
  go_loopw [4] (fun i wr => ∃ k : Nat, k ≤ n ∧ i = .int .i64 k ∧ Below w.heap.size w wr ∧ Part Wt.cells 2 134 wr w.heap.size 0 n (l.take k)) (fun i _ => n - (intOf i).toNat)
  case atStart => exact ⟨0, Nat.zero_le _, rfl, hb0, hp0⟩
  case round =>
    clear hb0 hp0
    obtain ⟨k, hk, rfl, hb, hp⟩ := hrel
    by_cases hlt : k < n
    · obtain ⟨b, off, t, rfl, ht, _, hbw, f0, f1⟩ := Wt.get h hlt hb hlo
      go_wp2_with (go_at_call 137; refine (c1 t _).mono ?_; rintro e w1 ⟨rfl, hb1⟩; have hp1 := hp.below hb1; have hfz := hp1.frozen; obtain ⟨⟨o0, g0⟩, ⟨o1, g1⟩⟩ := hp1.cell2 hlt)
      go_roundw
      case rel =>
        refine ⟨k + 1, by omega, by go_num, setL_below (hb.trans (hb1.mono hb.size)) t.cells w.heap.size (k * 2) (Nat.le_refl _), ?_⟩
        have hlen : (l.take k).length = k := by rw [List.length_take, ← H.out]; omega
        rw [List.take_add_one, ht.out]
        exact hp1.set (by omega) t t.cells rfl rfl Wt.cells_len (by rw [hlen]; omega)
      case measure => simp [intOf]; omega
    · go_wp2
      go_ret
      have hkn : k = n := by omega
      subst hkn
      rw [List.take_of_length_le (by rw [← H.out]; omega)] at hp
      exact ⟨_, rfl, hp.ow H.out.symm (Nat.le_refl _) hp.lt (Nat.le_refl _) (by unfold maxLen; omega), hb⟩
theorem Wt.eqS_any (v1 v2 : Value) (l1 l2 : List Wt) (w : World) {lo1 hi1 lo2 hi2 : Nat} (h1 : Rd Wt.cells 2 w lo1 hi1 v1 l1) (h2 : Rd Wt.cells 2 w lo2 hi2 v2 l2) (hh1 : hi1 ≤ w.heap.size) (hh2 : hi2 ≤ w.heap.size) :
    Calls Tryz.prog 108 #[v1, v2] w fun e w' => e = .returned (.bool (Wt.eqL l1 l2)) ∧ Below w.heap.size w w' := by
  obtain ⟨A, n, c, rfl, H1, hc1, hm1⟩ := h1.form
  obtain ⟨B, m, d, rfl, H2, hc2, hm2⟩ := h2.form
  have c1 := fun a b => Wt.eq_any a b
  unfold Wt.val at c1
  by_cases hne : n = m
  · subst hne
    go_enter Tryz.func108, Tryz.ntmps108
    go_wp2_with fail
    go_loopw [5] (fun i wr => ∃ k : Nat, k ≤ n ∧ i = .int .i64 k ∧ Below w.heap.size w wr ∧ l1.take k = l2.take k) (fun i _ => n - (intOf i).toNat)
    case atStart => exact ⟨0, Nat.zero_le _, rfl, Below.refl _ _, rfl⟩
    case round =>
      obtain ⟨k, hk, rfl, hb, he⟩ := hrel
      have HE := Lib.hid he
      clear he
      by_cases hlt : k < n
      · obtain ⟨b, off, x, rfl, hx, _, _, f0, f1⟩ := Wt.get h1 hlt hb hh1
        obtain ⟨b', off', y, rfl, hy, _, _, g0, g1⟩ := Wt.get h2 hlt hb hh2
        cases hq : x.eqB y
        · have c1 := c1 x y
          rw [hq] at c1
          have hne : l1 ≠ l2 := by
            rintro rfl
            have : x = y := Option.some.inj (hx.out.symm.trans hy.out)
            rw [(Wt.eqB_iff x y).2 this] at hq
            cases hq
          have HF := Lib.hid (show Wt.eqL l1 l2 = false from by simp [Wt.eqL, hne])
          clear hne hq
          go_wp2_with fail
          go_region_with (go_at_call 139; refine (c1 _).mono ?_; rintro e w1 ⟨rfl, hb1⟩)
          all_goals
            go_wp2_with fail
            go_ret
            exact ⟨ret_bool HF.out.symm, hb.drew.trans (hb1.mono hb.size)⟩
        · have c1 := c1 x y
          rw [hq] at c1
          have HF := Lib.hid ((Wt.eqB_iff x y).1 hq)
          clear hq
          go_wp2_with fail
          go_region_with (go_at_call 139; refine (c1 _).mono ?_; rintro e w1 ⟨rfl, hb1⟩)
          all_goals
            go_wp2_with fail
            go_roundw
            case rel => exact ⟨k + 1, by omega, by go_num, hb.drew.trans (hb1.mono hb.size), by rw [List.take_add_one, List.take_add_one, HE.out, hx.out, hy.out, HF.out]⟩
            case measure => simp [intOf]; omega
      · go_wp2_with fail
        go_ret
        refine ⟨ret_bool ?_, hb⟩
        have he := HE.out
        rw [List.take_of_length_le (by rw [← H1.out]; omega), List.take_of_length_le (by rw [← H2.out]; omega)] at he
        simp [Wt.eqL, he]
  · have HF := Lib.hid (show Wt.eqL l1 l2 = false from by
      have : l1 ≠ l2 := by rintro rfl; exact hne (H1.out.trans H2.out.symm)
      simp [Wt.eqL, this])
    go_enter Tryz.func108, Tryz.ntmps108
    go_wp2_with fail
    go_ret
    exact ⟨ret_bool HF.out.symm, Below.refl _ _⟩
theorem Wt.eqS_same (v1 v2 : Value) (l : List Wt) (w : World) {lo1 hi1 lo2 hi2 : Nat} (h1 : Rd Wt.cells 2 w lo1 hi1 v1 l) (h2 : Rd Wt.cells 2 w lo2 hi2 v2 l) (hh1 : hi1 ≤ w.heap.size) (hh2 : hi2 ≤ w.heap.size) :
    Calls Tryz.prog 108 #[v1, v2] w fun e w' => e = .returned (.bool true) ∧ Below w.heap.size w w' := by
  have h := Wt.eqS_any v1 v2 l l w h1 h2 hh1 hh2
  rwa [show Wt.eqL l l = true from by simp [Wt.eqL]] at h

theorem Wt.one (y : Wt) (u : Value) (h : u ∈ Wt.cells y) : u.oneCell' = true := by
  simp only [Wt.cells, List.mem_cons, List.not_mem_nil, or_false] at h
  rcases h with rfl | rfl <;> rfl
theorem Wt.app_rd {w : World} {ops : Array Oper} {rest : List Oper} {o : Oper} {a : Act} {Q : Exit → Act → World → Prop} (hgd : o.guard = none) (s x : Operand)
    (ho : o.op = .call { callee := .builtin .append, args := #[s, x], argTypes := #[31, 31] }) (base : Nat)
    (v : Value) (n : Nat) (xs : List Value) (hs : a.eval s = v) (hown : w.ownsRow base 134 2 v n xs) {lo hi m c : Nat} {A : Option Addr} {l : List Wt} (hx : a.eval x = .slice A m c) (hr : Rd Wt.cells 2 w lo hi (.slice A m c) l)
    (hlen : n + m ≤ 4194304) (hbase : base ≤ w.heap.size)
    (h : ∀ v' w', w'.ownsRow base 134 2 v' (n + m) (xs ++ l.flatMap Wt.cells) → w.grownBy w' v.ownBlock → wpList Tryz.prog ops Q rest (a.put o.dst v') w') : wpList Tryz.prog ops Q (o :: rest) a w := by
  obtain ⟨i0, hi0, hz0, hz1, hz2⟩ := info_parts Wt.info
  exact wp_app_rd hgd s x _ ho base _ i0 _ 2 _ Tryz.underlying31 hi0 hz0 hz1 hz2 rfl (by omega) Wt.cells_len Wt.one v n xs hs hown hx hr (by unfold maxLen; omega) (by omega) hbase h
theorem Wt.app_one {w : World} {ops : Array Oper} {rest : List Oper} {o : Oper} {a : Act} {Q : Exit → Act → World → Prop} (hgd : o.guard = none) (s x : Operand)
    (ho : o.op = .call { callee := .builtin .append, args := #[s, x], argTypes := #[31, 31] }) (base : Nat)
    (v : Value) (n : Nat) (xs : List Value) (hs : a.eval s = v) (hown : w.ownsRow base 134 2 v n xs) {g c : Nat} (y : Wt) (hx : a.eval x = .slice (some ⟨g, 0, none⟩) 1 c) (hr : ∀ j u, (Wt.cells y)[j]? = some u → w.cell? ⟨g, j, none⟩ = some u)
    (hlen : n ≤ 4194304) (hbase : base ≤ w.heap.size)
    (h : ∀ v' w', w'.ownsRow base 134 2 v' (n + 1) (xs ++ Wt.cells y) → w.grownBy w' v.ownBlock → wpList Tryz.prog ops Q rest (a.put o.dst v') w') : wpList Tryz.prog ops Q (o :: rest) a w := by
  obtain ⟨i0, hi0, hz0, hz1, hz2⟩ := info_parts Wt.info
  exact wpList_append_own w hgd s x _ ho base _ i0 _ 2 _ Tryz.underlying31 hi0 hz0 hz1 hz2 rfl (by omega) v n xs hs hown ⟨g, 0, none⟩ 1 c (Wt.cells y) hx (by rw [Wt.cells_len]) (fun j u hu => by rw [Go.WideShapes.add_plain, Nat.zero_add]; exact hr j u hu) (Wt.one y) (by unfold maxLen; omega) (by omega) hbase
    fun v' w' h1 h2 _ => h v' w' h1 h2

/-- what marking writes, from k on -/
def Wt.mark (k : Int) : Wt := ⟨k, k + 1⟩
def Wt.markL (k : Int) (n : Nat) : List Wt := (List.range n).map fun (i : Nat) => Wt.mark (k + 2 * i)
theorem Wt.markL_len (k : Int) (n : Nat) : (Wt.markL k n).length = n := by simp [Wt.markL]
theorem Wt.markL_succ (k : Int) (n : Nat) : Wt.markL k (n + 1) = Wt.markL k n ++ [Wt.mark (k + 2 * n)] := by simp [Wt.markL, List.range_succ]

theorem Wt.markS_any (v : Value) (l : List Wt) (w : World) {lo hi : Nat} (h : Ow Wt.cells 2 134 w lo hi v l) (k0 : Int) (h0 : 0 ≤ k0) (h1 : k0 ≤ 1099511627776) (hl : l.length ≤ 1048576) :
    Calls Tryz.prog 110 #[v, .int .i64 k0] w fun e w' => e = .returned (.int .i64 (k0 + 2 * l.length)) ∧ Ow Wt.cells 2 134 w' lo hi v (Wt.markL k0 l.length) ∧ Turned w w' v l.length := by
  obtain ⟨A, n, c, rfl, H, hc, hm⟩ := h.form
  rw [← H.out] at hl ⊢
  go_enter Tryz.func110, Tryz.ntmps110
  go_wp2_with fail
  go_loopw [1, 5] (fun q i wr => ∃ k : Nat, k ≤ n ∧ i = .int .i64 k ∧ q = .int .i64 (k0 + 2 * k) ∧ (0 < n → ∃ g off, A = some ⟨g, off, none⟩ ∧ lo ≤ g ∧ g < hi ∧ Part Wt.cells 2 134 wr g off n (Wt.markL k0 k) ∧ w.grownBy wr (some g)) ∧ (n = 0 → wr = w)) (fun _ i _ => n - (intOf i).toNat)
  case atStart =>
    refine ⟨0, Nat.zero_le _, rfl, by simp, fun hn => ?_, fun _ => rfl⟩
    obtain ⟨g, off, hA, hg1, hg2, hp⟩ := h.part Wt.cells_len (by omega) hn
    exact ⟨g, off, hA, hg1, hg2, by simpa [Wt.markL] using hp, World.grownBy.refl w _⟩
  case round =>
    obtain ⟨k, hk, rfl, rfl, hp, hn0⟩ := hrel
    by_cases hlt : k < n
    · obtain ⟨g, off, rfl, hg1, hg2, hp, hg⟩ := hp (by omega)
      have hfz := hp.frozen
      obtain ⟨⟨o0, g0⟩, ⟨o1, g1⟩⟩ := hp.cell2o hlt
      clear hn0
      go_wp2_with fail
      go_roundw
      case rel =>
        refine ⟨k + 1, by omega, by go_num, by go_num, fun _ => ⟨g, off, rfl, hg1, hg2, ?_, ?_⟩, fun h => by omega⟩
        · rw [Wt.markL_succ]
          exact hp.set (by rw [Wt.markL_len]; exact hlt) _ (Wt.mark (k0 + 2 * k)).cells rfl rfl Wt.cells_len (by rw [Wt.markL_len])
        · exact grown_trans hg (setL_grown (Wt.mark (k0 + 2 * k)).cells wr g (off + k * 2))
      case measure => simp [intOf]; omega
    · have hkn : k = n := by omega
      subst hkn
      go_wp2_with fail
      go_ret
      rcases Nat.eq_zero_or_pos k with hz | hz
      · subst hz
        have hl0 : l = [] := List.eq_nil_of_length_eq_zero H.out.symm
        subst hl0
        rw [hn0 rfl]
        exact ⟨rfl, h, Turned.refl _ _ _⟩
      · obtain ⟨g, off, rfl, hg1, hg2, hp, hg⟩ := hp hz
        exact ⟨rfl, hp.ow (Wt.markL_len _ _) hg1 hg2 hc (by unfold maxLen; omega), ⟨some g, hg, fun g' e => ⟨hz, by simpa [Value.ownBlock] using e⟩⟩⟩
theorem Wt.heldS_any (v : Value) (w : World) {lo hi n : Nat} {k0 : Int} (h : Rd Wt.cells 2 w lo hi v (Wt.markL k0 n)) (h0 : 0 ≤ k0) (h1 : k0 ≤ 1099511627776) (hl : n ≤ 1048576) :
    Calls Tryz.prog 112 #[v, .int .i64 k0] w fun e w' => e = .returned (.int .i64 (k0 + 2 * n)) ∧ w = w' := by
  obtain ⟨A, m, c, rfl, H, hc, hm⟩ := h.form
  have H := H.out
  rw [Wt.markL_len] at H
  subst H
  go_enter Tryz.func112, Tryz.ntmps112
  go_wp2_with fail
  go_loop [1, 5] (fun q i => ∃ k : Nat, k ≤ m ∧ i = .int .i64 k ∧ q = .int .i64 (k0 + 2 * k)) (fun _ i => m - (intOf i).toNat)
  case atStart => exact ⟨0, Nat.zero_le _, rfl, by simp⟩
  case round =>
    obtain ⟨k, hk, rfl, rfl⟩ := hrel
    by_cases hlt : k < m
    · obtain ⟨b, off, t, rfl, ht, _, hbw, f0, f1⟩ := Wt.get h hlt (Below.refl hi w) (Nat.le_refl _)
      have ht := ht.out
      simp only [Wt.markL, List.getElem?_map, List.getElem?_range hlt, Option.map_some, Option.some.injEq] at ht
      subst ht
      simp only [Wt.mark] at f0 f1
      go_wp2_with fail
      go_round
      case rel => exact ⟨k + 1, by omega, by go_num, by go_num⟩
      case measure => simp [intOf]; omega
    · have hkn : k = m := by omega
      subst hkn
      go_wp2_with fail
      go_ret
      exact ⟨rfl, rfl⟩

end Go.Proofs.YtengaccnncnipaaGreat

/- Comparing the urgency of two interrupts, in the program and in the reference. No condition. -/
namespace Go.Proofs.YtengaccnncnipaaGreat
open Go.RowKit Go.ChangeShapes Go.WideShapes Go.Deep

def Wt.lt (x y : Wt) : Bool := decide (x.prio < y.prio) || (decide (x.prio = y.prio) && decide (x.irq < y.irq))
def orI (a b : Int) : Int := if a = 0 then b else a
def urg (x y : Wt) : Int := orI (cmpI x.prio y.prio) (cmpI x.irq y.irq)
theorem urg_neg (x y : Wt) : urg x y < 0 ↔ x.lt y = true := by
  unfold urg orI cmpI Wt.lt
  simp only [Bool.or_eq_true, Bool.and_eq_true, decide_eq_true_eq]
  repeat' split
  all_goals omega
def Sl.wt (s : Sl) : Wt := ⟨s.irq, s.prio⟩

theorem cmpOr_any (v : Value) (a b : Int) (w : World) {lo hi : Nat} (h : Rd Nm.cells 1 w lo hi v [a, b]) (hh : hi ≤ w.heap.size) : Calls Tryz.prog 180 #[v] w fun e w' => e = .returned (.int .i64 (orI a b)) ∧ w = w' := by
  obtain ⟨A, n, c, rfl, H, hc, hm⟩ := h.form
  have hn : n = 2 := H.out
  subst hn
  obtain ⟨b0, off, x, rfl, hx, _, hbl, f0⟩ := Nm.get h (k := 0) (by omega) (Below.refl w.heap.size w) hh
  simp only [Nat.add_zero] at f0
  obtain ⟨_, _, y, e, hy, _, _, f1⟩ := Nm.get h (k := 1) (by omega) (Below.refl w.heap.size w) hh
  injection e with e
  injection e with e1 e2
  subst e1; subst e2
  obtain rfl : a = x := by simpa using hx.out
  obtain rfl : b = y := by simpa using hy.out
  go_enter Tryz.func180, Tryz.ntmps180
  go_wp2_with fail
  go_loop [8] (fun i => ∃ k : Nat, k ≤ 2 ∧ i = .int .i64 k ∧ Hid (0 < k → a = 0) ∧ Hid (1 < k → b = 0)) (fun i => 2 - (intOf i).toNat)
  case atStart => exact ⟨0, by omega, rfl, Lib.hid (fun h => by omega), Lib.hid (fun h => by omega)⟩
  case round =>
    obtain ⟨k, hk, rfl, h0, h1⟩ := hrel
    match k, hk, h0, h1 with
    | 0, _, _, _ =>
      by_cases ha : a = 0
      · have HA := Lib.hid ha
        rw [ha] at f0
        clear ha
        go_wp2_with fail
        go_round
        case rel => exact ⟨1, by omega, by go_num, Lib.hid (fun _ => HA.out), Lib.hid (fun h => by omega)⟩
        case measure => simp [intOf]
      · have HE := Lib.hid (show orI a b = a from by simp [orI, ha])
        go_wp2_with fail
        go_ret
        exact ⟨ret_int HE.out.symm, rfl⟩
    | 1, _, h0, _ =>
      have HA := Lib.hid (h0.out (by omega))
      by_cases hb : b = 0
      · have HB := Lib.hid hb
        rw [hb] at f1
        clear hb
        go_wp2_with fail
        go_round
        case rel => exact ⟨2, by omega, by go_num, Lib.hid (fun _ => HA.out), Lib.hid (fun _ => HB.out)⟩
        case measure => simp [intOf]
      · have HE := Lib.hid (show orI a b = b from by simp [orI, HA.out])
        go_wp2_with fail
        go_ret
        exact ⟨ret_int HE.out.symm, rfl⟩
    | 2, _, h0, h1 =>
      have HE := Lib.hid (show orI a b = 0 from by simp [orI, h0.out (by omega), h1.out (by omega)])
      go_wp2_with fail
      go_ret
      exact ⟨ret_int HE.out.symm, rfl⟩

theorem waiterOf_any (s : Sl) (w : World) : Calls Tryz.prog 156 #[s.val] w fun e w' => e = .returned s.wt.val ∧ Below w.heap.size w w' := by
  unfold Sl.wt Sl.val Wt.val
  go_enter Tryz.func156, Tryz.ntmps156
  go_wp2
  go_returns
  exact ⟨by simp, by go_grown⟩
theorem l8Less_any (p i q j : Int) (w : World) : Calls Tryz.prog 171 #[.int .i64 p, .int .i64 i, .int .i64 q, .int .i64 j] w fun e w' => e = .returned (.bool (Wt.lt ⟨i, p⟩ ⟨j, q⟩)) ∧ w = w' := by
  rcases Int.lt_trichotomy p q with h | h | h
  · have HE := Lib.hid (show Wt.lt ⟨i, p⟩ ⟨j, q⟩ = true from by simp [Wt.lt, h])
    go_enter Tryz.func171, Tryz.ntmps171
    go_wp2
    go_ret
    exact ⟨ret_bool HE.out.symm, rfl⟩
  · subst h
    have h1 : ¬ p < p := by omega
    by_cases hij : i < j
    · have HE := Lib.hid (show Wt.lt ⟨i, p⟩ ⟨j, p⟩ = true from by simp [Wt.lt, hij])
      go_enter Tryz.func171, Tryz.ntmps171
      go_wp2
      go_ret
      exact ⟨ret_bool (by rw [HE.out]), rfl⟩
    · have HE := Lib.hid (show Wt.lt ⟨i, p⟩ ⟨j, p⟩ = false from by simp [Wt.lt, hij])
      go_enter Tryz.func171, Tryz.ntmps171
      go_wp2
      go_ret
      exact ⟨ret_bool (by rw [HE.out]), rfl⟩
  · have h1 : ¬ p < q := by omega
    have h2 : ¬ p = q := by omega
    have HE := Lib.hid (show Wt.lt ⟨i, p⟩ ⟨j, q⟩ = false from by simp [Wt.lt, h1, h2])
    go_enter Tryz.func171, Tryz.ntmps171
    go_wp2
    go_ret
    exact ⟨ret_bool HE.out.symm, rfl⟩
theorem compareUrgency_any (x y : Wt) (w : World) : Calls Tryz.prog 153 #[x.val, y.val] w fun e w' => e = .returned (.int .i64 (urg x y)) ∧ Below w.heap.size w w' := by
  unfold urg Wt.val
  go_enter Tryz.func153, Tryz.ntmps153
  go_wp2_with fail
  have b0 : Below w.heap.size w ((w.alloc (.cells #[.int .i64 x.irq, .int .i64 x.prio] 134)).alloc (.cells #[.int .i64 y.irq, .int .i64 y.prio] 134)) := ((Below.refl w.heap.size w).alloc (Nat.le_refl _) _).alloc (by simp) _
  have k0 : ((w.alloc (.cells #[.int .i64 x.irq, .int .i64 x.prio] 134)).alloc (.cells #[.int .i64 y.irq, .int .i64 y.prio] 134)).cell? ⟨w.heap.size, 0, none⟩ = some (.int .i64 x.irq) := by simp
  have k1 : ((w.alloc (.cells #[.int .i64 x.irq, .int .i64 x.prio] 134)).alloc (.cells #[.int .i64 y.irq, .int .i64 y.prio] 134)).cell? ⟨w.heap.size, 1, none⟩ = some (.int .i64 x.prio) := by simp
  have k2 : ((w.alloc (.cells #[.int .i64 x.irq, .int .i64 x.prio] 134)).alloc (.cells #[.int .i64 y.irq, .int .i64 y.prio] 134)).cell? ⟨w.heap.size + 1, 0, none⟩ = some (.int .i64 y.irq) := by simp
  have k3 : ((w.alloc (.cells #[.int .i64 x.irq, .int .i64 x.prio] 134)).alloc (.cells #[.int .i64 y.irq, .int .i64 y.prio] 134)).cell? ⟨w.heap.size + 1, 1, none⟩ = some (.int .i64 y.prio) := by simp
  generalize (w.alloc _).alloc _ = w0 at b0 k0 k1 k2 k3 ⊢
  have e0 := cell_ext k0; have e1 := cell_ext k1; have e2 := cell_ext k2; have e3 := cell_ext k3
  refine wp_region_ext 10 (by kernel_rfl) (by kernel_rfl) ?_
  simp only [List.take_succ_cons, List.take_zero, List.drop_succ_cons, List.drop_zero]
  repeat (go_big_quiet_step ((go_at_call 181; exact calls_ext0 ((compare_any _ _ _).mono fun _ _ h => ⟨h.1, h.2.symm⟩))))
  refine wpQuiet_nil ?_
  intro w3 b3
  clear e0 e1 e2 e3 k0 k1 k2 k3
  go_wp2_with fail
  have hr : Rd Nm.cells 1 (w3.alloc (.cells #[.int .i64 (cmpI x.prio y.prio), .int .i64 (cmpI x.irq y.irq)] 3)) w3.heap.size (w3.heap.size + 1) (.slice (some ⟨w3.heap.size, 0, none⟩) 2 2) [cmpI x.prio y.prio, cmpI x.irq y.irq] := by
    refine ⟨some ⟨w3.heap.size, 0, none⟩, 2, rfl, by simp, by unfold maxLen; omega, fun _ => ⟨w3.heap.size, 0, rfl, Nat.le_refl _, by omega, fun i z hi j u hu => ?_⟩⟩
    match i, j with
    | 0, 0 => simp at hi; subst hi; simp [Nm.cells] at hu; subst hu; simp
    | 1, 0 => simp at hi; subst hi; simp [Nm.cells] at hu; subst hu; simp
    | i + 2, _ => simp at hi
    | _, j + 1 => simp [Nm.cells] at hu
  have c3 := cmpOr_any _ _ _ _ hr (by simp)
  refine c3.mono ?_; rintro e w4 ⟨rfl, rfl⟩
  have z0 := b0.size
  have z3 := b3.size
  go_wp2_with fail
  go_ret
  exact ⟨rfl, (b0.trans (b3.mono z0)).alloc (by omega) _⟩

end Go.Proofs.YtengaccnncnipaaGreat

/- The pending slot with the most or the least urgent interrupt, in the reference. No condition. -/
namespace Go.Proofs.YtengaccnncnipaaGreat
open Go.RowKit Go.ChangeShapes Go.WideShapes Go.Deep

def Sl.bt (most : Bool) (s b : Sl) : Bool := (most && s.wt.lt b.wt) || (!most && b.wt.lt s.wt)
def Sl.bestIf (most : Bool) (l : List Sl) (b : Int) (s : Sl) : Bool := s.state == 1 && (decide (b < 0) || Sl.bt most s (l.getD b.toNat default))
def Sl.best (most : Bool) (l : List Sl) : Nat → Int
  | 0 => -1
  | k + 1 => match l[k]? with
    | none => Sl.best most l k
    | some s => if Sl.bestIf most l (Sl.best most l k) s then k else Sl.best most l k
theorem Sl.best_succ {most : Bool} {l : List Sl} {k : Nat} {s : Sl} (h : l[k]? = some s) : Sl.best most l (k + 1) = if Sl.bestIf most l (Sl.best most l k) s then (k : Int) else Sl.best most l k := by
  rw [Sl.best, h]
theorem Sl.best_bd (most : Bool) (l : List Sl) : ∀ k : Nat, k ≤ l.length → Sl.best most l k = -1 ∨ ∃ (j : Nat) (u : Sl), Sl.best most l k = j ∧ j < k ∧ l[j]? = some u ∧ u.state = 1
  | 0, _ => .inl rfl
  | k + 1, h => by
    have hs : l[k]? = some (l[k]'(by omega)) := List.getElem?_eq_getElem _
    rw [Sl.best_succ hs]
    split
    · rename_i hq
      right
      exact ⟨k, _, rfl, by omega, hs, by simp only [Sl.bestIf, Bool.and_eq_true, beq_iff_eq] at hq; exact hq.1⟩
    · rcases Sl.best_bd most l k (by omega) with h1 | ⟨j, u, h1, h2, h3⟩
      · exact .inl h1
      · exact .inr ⟨j, u, h1, by omega, h3⟩
theorem Sl.good_ne {l : List Sl} (h : Sl.good l = true) {j k : Nat} {u s : Sl} (hjk : j < k) (hu : l[j]? = some u) (hs : l[k]? = some s) (h1 : ¬ u.state = 0) (h2 : ¬ s.state = 0) : ¬ u.irq = s.irq := by
  have h3 := Sl.good_one h hs
  simp only [Sl.okAt, if_neg h2, Bool.and_eq_true, Bool.not_eq_true'] at h3
  intro e
  have := List.any_eq_false.1 h3.2.2.2 u (List.mem_of_getElem? (by rw [List.getElem?_take, if_pos hjk]; exact hu))
  simp [Sl.has, h1, e] at this

theorem waiterOf_at (a b c : Int) (w : World) : Calls Tryz.prog 156 #[.agg #[.int .i64 a, .int .i64 b, .int .i64 c]] w fun e w' => e = .returned (.agg #[.int .i64 b, .int .i64 c]) ∧ Below w.heap.size w w' := waiterOf_any ⟨a, b, c⟩ w
theorem compareUrgency_at (i p j q : Int) (w : World) : Calls Tryz.prog 153 #[.agg #[.int .i64 i, .int .i64 p], .agg #[.int .i64 j, .int .i64 q]] w fun e w' => e = .returned (.int .i64 (urg ⟨i, p⟩ ⟨j, q⟩)) ∧ Below w.heap.size w w' := compareUrgency_any ⟨i, p⟩ ⟨j, q⟩ w

set_option maxHeartbeats 2000000 in
theorem l8Best_any (v : Value) (l : List Sl) (most : Bool) (w : World) {lo hi : Nat} (h : Rd Sl.cells 3 w lo hi v l) (hh : hi ≤ w.heap.size) : Calls Tryz.prog 174 #[v, .bool most] w fun e w' => e = .returned (.int .i64 (Sl.best most l l.length)) ∧ Below w.heap.size w w' := by
  have hrd := h
  obtain ⟨A, n, c, rfl, H, hc, hm⟩ := h.form
  clear h
  go_enter Tryz.func174, Tryz.ntmps174
  go_wp2_with fail
  go_loopw [5, 6] (fun q i wr => ∃ k : Nat, k ≤ n ∧ i = .int .i64 k ∧ q = .int .i64 (Sl.best most l k) ∧ Below w.heap.size w wr) (fun _ i _ => n - (intOf i).toNat)
  case atStart => exact ⟨0, Nat.zero_le _, rfl, rfl, Below.refl _ _⟩
  case round =>
    obtain ⟨k, hk, rfl, rfl, hb⟩ := hrel
    by_cases hlt : k < n
    · obtain ⟨b, off, s, rfl, hs, _, hbl, f0, f1, f2⟩ := Sl.get hrd hlt hb hh
      have hbs := hb.size
      have hbw : b < wr.heap.size := by omega
      have hb2 := hb.alloc hb.size (.cells #[.int .i64 s.state, .int .i64 s.irq, .int .i64 s.prio] 127)
      have hN := Sl.best_succ (most := most) hs.out
      by_cases h1 : s.state = 1
      · rw [h1] at f0 hb2
        rcases Sl.best_bd most l k (by have := H.out; omega) with hbd | ⟨j, u, hbd, hj, hu, _⟩
        · have HN := Lib.hid (show Sl.best most l (k + 1) = k from by rw [hN, hbd]; simp [Sl.bestIf, h1])
          rw [hbd]
          clear hN hbd h1
          go_wp2_with fail
          go_quiet (fail)
          go_wp2_with fail
          go_roundw
          case rel => exact ⟨k + 1, by omega, by go_num, by rw [HN.out], below_drewN hb2 _⟩
          case measure => simp [intOf]; omega
        · obtain ⟨_, _, u', e, hu', _, _, g0, g1, g2⟩ := Sl.get hrd (k := j) (by omega) hb hh
          injection e with e
          injection e with e1 e2
          subst e1; subst e2
          obtain rfl : u = u' := Option.some.inj (hu.symm.trans hu'.out)
          have hj0 : decide ((j : Int) < 0) = false := by simp
          have hjn : (j : Int) < (n : Int) := by omega
          have HN := Lib.hid (show Sl.best most l (k + 1) = if Sl.bt most s u then (k : Int) else j from by
            have hj1 : ¬ (j : Int) < 0 := by omega
            rw [hN, hbd]; simp [Sl.bestIf, h1, hu, hj1])
          rw [hbd]
          clear hN hbd h1 hu hu'
          cases most
          · have c2 := fun W => l8Less_any u.prio u.irq s.prio s.irq W
            cases hq : Wt.lt ⟨u.irq, u.prio⟩ ⟨s.irq, s.prio⟩
            · rw [hq] at c2
              have HM := Lib.hid (show Sl.best false l (k + 1) = j from by rw [HN.out]; simp [Sl.bt, Sl.wt, hq])
              clear hq HN
              go_wp2_with fail
              go_quiet ((go_at_call 171; refine Calls.quiet_of_same ((c2 _).mono fun _ _ h => ⟨h.1, h.2.symm⟩)))
              go_wp2_with fail
              go_roundw
              case rel => exact ⟨k + 1, by omega, by go_num, by rw [HM.out], below_drewN hb2 _⟩
              case measure => simp [intOf]; omega
            · rw [hq] at c2
              have HM := Lib.hid (show Sl.best false l (k + 1) = k from by rw [HN.out]; simp [Sl.bt, Sl.wt, hq])
              clear hq HN
              go_wp2_with fail
              go_quiet ((go_at_call 171; refine Calls.quiet_of_same ((c2 _).mono fun _ _ h => ⟨h.1, h.2.symm⟩)))
              go_wp2_with fail
              go_roundw
              case rel => exact ⟨k + 1, by omega, by go_num, by rw [HM.out], below_drewN hb2 _⟩
              case measure => simp [intOf]; omega
          · have c2 := fun W => l8Less_any s.prio s.irq u.prio u.irq W
            cases hq : Wt.lt ⟨s.irq, s.prio⟩ ⟨u.irq, u.prio⟩
            · rw [hq] at c2
              have HM := Lib.hid (show Sl.best true l (k + 1) = j from by rw [HN.out]; simp [Sl.bt, Sl.wt, hq])
              clear hq HN
              go_wp2_with fail
              go_quiet ((go_at_call 171; refine Calls.quiet_of_same ((c2 _).mono fun _ _ h => ⟨h.1, h.2.symm⟩)))
              go_wp2_with fail
              go_roundw
              case rel => exact ⟨k + 1, by omega, by go_num, by rw [HM.out], below_drewN hb2 _⟩
              case measure => simp [intOf]; omega
            · rw [hq] at c2
              have HM := Lib.hid (show Sl.best true l (k + 1) = k from by rw [HN.out]; simp [Sl.bt, Sl.wt, hq])
              clear hq HN
              go_wp2_with fail
              go_quiet ((go_at_call 171; refine Calls.quiet_of_same ((c2 _).mono fun _ _ h => ⟨h.1, h.2.symm⟩)))
              go_wp2_with fail
              go_roundw
              case rel => exact ⟨k + 1, by omega, by go_num, by rw [HM.out], below_drewN hb2 _⟩
              case measure => simp [intOf]; omega
      · have HN := Lib.hid (show Sl.best most l (k + 1) = Sl.best most l k from by rw [hN]; simp [Sl.bestIf, h1])
        clear hN
        generalize Sl.best most l k = q at *
        go_wp2_with fail
        go_roundw
        case rel => exact ⟨k + 1, by omega, by go_num, by rw [HN.out], hb2⟩
        case measure => simp [intOf]; omega
    · have hkn : k = n := by omega
      have HE := Lib.hid (show Sl.best most l k = Sl.best most l l.length from by rw [hkn, H.out])
      go_wp2_with fail
      go_ret
      exact ⟨ret_int HE.out, hb⟩

end Go.Proofs.YtengaccnncnipaaGreat

/- The pending slot with the most or the least urgent interrupt, in the program. Condition: the slots are valid. -/
namespace Go.Proofs.YtengaccnncnipaaGreat
open Go.RowKit Go.ChangeShapes Go.WideShapes Go.Deep

set_option maxHeartbeats 8000000 in
theorem pendingSlot_any (v : Value) (l : List Sl) (most : Bool) (w : World) {lo hi : Nat} (h : Rd Sl.cells 3 w lo hi v l) (hh : hi ≤ w.heap.size) (hg : Sl.good l = true) : Calls Tryz.prog 154 #[v, .bool most] w fun e w' => e = .returned (.int .i64 (Sl.best most l l.length)) ∧ Below w.heap.size w w' := by
  have hrd := h
  have HG := Lib.hid hg
  obtain ⟨A, n, c, rfl, H, hc, hm⟩ := h.form
  clear h hg
  go_enter Tryz.func154, Tryz.ntmps154
  go_wp2_with fail
  go_loopw [5, 10] (fun q i wr => ∃ k : Nat, k ≤ n ∧ i = .int .i64 k ∧ q = .int .i64 (Sl.best most l k) ∧ Below w.heap.size w wr) (fun _ i _ => n - (intOf i).toNat)
  case atStart => exact ⟨0, Nat.zero_le _, rfl, rfl, Below.refl _ _⟩
  case round =>
    obtain ⟨k, hk, rfl, rfl, hb⟩ := hrel
    by_cases hlt : k < n
    · obtain ⟨b, off, s, rfl, hs, _, hbl, f0, f1, f2⟩ := Sl.get hrd hlt hb hh
      have hbs := hb.size
      have hbw : b < wr.heap.size := by omega
      have hb2 := hb.alloc hb.size (.cells #[.int .i64 s.state, .int .i64 s.irq, .int .i64 s.prio] 127)
      have hN := Sl.best_succ (most := most) hs.out
      by_cases h1 : s.state = 1
      · rcases Sl.best_bd most l k (by have := H.out; omega) with hbd | ⟨j, u, hbd, hj, hu, hu1⟩
        · have HN := Lib.hid (show Sl.best most l (k + 1) = k from by rw [hN, hbd]; simp [Sl.bestIf, h1])
          rw [h1] at f0 hb2
          rw [hbd]
          clear hN hbd h1
          go_wp2_with fail
          go_quiet (fail)
          go_wp2_with fail
          go_roundw
          case rel => exact ⟨k + 1, by omega, by go_num, by rw [HN.out], below_drewN hb2 _⟩
          case measure => simp [intOf]; omega
        · obtain ⟨_, _, u', e, hu', _, _, g0, g1, g2⟩ := Sl.get hrd (k := j) (by omega) hb hh
          injection e with e
          injection e with e1 e2
          subst e1; subst e2
          obtain rfl : u = u' := Option.some.inj (hu.symm.trans hu'.out)
          have hj0 : decide ((j : Int) < 0) = false := by simp
          have hjn : (j : Int) < (n : Int) := by omega
          have hne := Sl.good_ne HG.out hj hu hs.out (by omega) (by omega)
          have hln : s.wt.lt u.wt = !u.wt.lt s.wt := by
            unfold Wt.lt Sl.wt
            rw [Bool.eq_iff_iff]
            simp only [Bool.or_eq_true, Bool.and_eq_true, Bool.not_eq_true', Bool.or_eq_false_iff, Bool.and_eq_false_iff, decide_eq_true_eq, decide_eq_false_iff_not]
            omega
          have HN := Lib.hid (show Sl.best most l (k + 1) = if (s.wt.lt u.wt == most) then (k : Int) else j from by
            have hj1 : ¬ (j : Int) < 0 := by omega
            rw [hN, hbd]
            cases most <;> simp [Sl.bestIf, h1, hu, hj1, Sl.bt, hln])
          rw [hbd]
          rw [h1] at f0 hb2
          have hur := urg_neg s.wt u.wt
          clear hN hbd h1 hu hu' hu1 hne hln
          unfold Sl.wt at hur HN
          cases hq : Wt.lt ⟨s.irq, s.prio⟩ ⟨u.irq, u.prio⟩
          · have hd : decide (urg ⟨s.irq, s.prio⟩ ⟨u.irq, u.prio⟩ < 0) = false := decide_eq_false (fun h => by rw [hq] at hur; simpa using hur.1 h)
            rw [hq] at HN
            clear hq hur
            cases most
            all_goals
              go_wp2_with fail
              have k0 : (wr.alloc (.cells #[.int .i64 1, .int .i64 s.irq, .int .i64 s.prio] 127)).cell? ⟨wr.heap.size, 0, none⟩ = some (.int .i64 1) := by simp
              have k1 : (wr.alloc (.cells #[.int .i64 1, .int .i64 s.irq, .int .i64 s.prio] 127)).cell? ⟨wr.heap.size, 1, none⟩ = some (.int .i64 s.irq) := by simp
              have k2 : (wr.alloc (.cells #[.int .i64 1, .int .i64 s.irq, .int .i64 s.prio] 127)).cell? ⟨wr.heap.size, 2, none⟩ = some (.int .i64 s.prio) := by simp
              have k3 : (wr.alloc (.cells #[.int .i64 1, .int .i64 s.irq, .int .i64 s.prio] 127)).cell? ⟨b, off + j * 3, none⟩ = some (.int .i64 u.state) := by rw [World.cell?_alloc_lt _ _ _ hbw]; exact g0
              have k4 : (wr.alloc (.cells #[.int .i64 1, .int .i64 s.irq, .int .i64 s.prio] 127)).cell? ⟨b, off + j * 3 + 1, none⟩ = some (.int .i64 u.irq) := by rw [World.cell?_alloc_lt _ _ _ hbw]; exact g1
              have k5 : (wr.alloc (.cells #[.int .i64 1, .int .i64 s.irq, .int .i64 s.prio] 127)).cell? ⟨b, off + j * 3 + 2, none⟩ = some (.int .i64 u.prio) := by rw [World.cell?_alloc_lt _ _ _ hbw]; exact g2
              clear f0 f1 f2 g0 g1 g2
              generalize wr.alloc _ = w2 at hb2 k0 k1 k2 k3 k4 k5 ⊢
              have e0 := cell_ext k0; have e1 := cell_ext k1; have e2 := cell_ext k2; have e3 := cell_ext k3; have e4 := cell_ext k4; have e5 := cell_ext k5
              refine wp_region_ext_all (by kernel_rfl) (by kernel_rfl) ?_
              repeat (go_big_quiet_step (first | (go_at_call 156; exact calls_ext (waiterOf_at _ _ _ _)) | (go_at_call 153; exact calls_ext (compareUrgency_at _ _ _ _ _))))
              refine wpQuiet_nil ?_
              intro w3 b3
              clear e0 e1 e2 e3 e4 e5
              go_wp2_with fail
              go_roundw
              case rel => exact ⟨k + 1, by omega, by go_num, by rw [HN.out]; rfl, hb2.trans (b3.mono hb2.size)⟩
              case measure => simp [intOf]; omega
          · have hd : decide (urg ⟨s.irq, s.prio⟩ ⟨u.irq, u.prio⟩ < 0) = true := decide_eq_true (hur.2 hq)
            rw [hq] at HN
            clear hq hur
            cases most
            all_goals
              go_wp2_with fail
              have k0 : (wr.alloc (.cells #[.int .i64 1, .int .i64 s.irq, .int .i64 s.prio] 127)).cell? ⟨wr.heap.size, 0, none⟩ = some (.int .i64 1) := by simp
              have k1 : (wr.alloc (.cells #[.int .i64 1, .int .i64 s.irq, .int .i64 s.prio] 127)).cell? ⟨wr.heap.size, 1, none⟩ = some (.int .i64 s.irq) := by simp
              have k2 : (wr.alloc (.cells #[.int .i64 1, .int .i64 s.irq, .int .i64 s.prio] 127)).cell? ⟨wr.heap.size, 2, none⟩ = some (.int .i64 s.prio) := by simp
              have k3 : (wr.alloc (.cells #[.int .i64 1, .int .i64 s.irq, .int .i64 s.prio] 127)).cell? ⟨b, off + j * 3, none⟩ = some (.int .i64 u.state) := by rw [World.cell?_alloc_lt _ _ _ hbw]; exact g0
              have k4 : (wr.alloc (.cells #[.int .i64 1, .int .i64 s.irq, .int .i64 s.prio] 127)).cell? ⟨b, off + j * 3 + 1, none⟩ = some (.int .i64 u.irq) := by rw [World.cell?_alloc_lt _ _ _ hbw]; exact g1
              have k5 : (wr.alloc (.cells #[.int .i64 1, .int .i64 s.irq, .int .i64 s.prio] 127)).cell? ⟨b, off + j * 3 + 2, none⟩ = some (.int .i64 u.prio) := by rw [World.cell?_alloc_lt _ _ _ hbw]; exact g2
              clear f0 f1 f2 g0 g1 g2
              generalize wr.alloc _ = w2 at hb2 k0 k1 k2 k3 k4 k5 ⊢
              have e0 := cell_ext k0; have e1 := cell_ext k1; have e2 := cell_ext k2; have e3 := cell_ext k3; have e4 := cell_ext k4; have e5 := cell_ext k5
              refine wp_region_ext_all (by kernel_rfl) (by kernel_rfl) ?_
              repeat (go_big_quiet_step (first | (go_at_call 156; exact calls_ext (waiterOf_at _ _ _ _)) | (go_at_call 153; exact calls_ext (compareUrgency_at _ _ _ _ _))))
              refine wpQuiet_nil ?_
              intro w3 b3
              clear e0 e1 e2 e3 e4 e5
              go_wp2_with fail
              go_roundw
              case rel => exact ⟨k + 1, by omega, by go_num, by rw [HN.out]; rfl, hb2.trans (b3.mono hb2.size)⟩
              case measure => simp [intOf]; omega
      · have HN := Lib.hid (show Sl.best most l (k + 1) = Sl.best most l k from by rw [hN]; simp [Sl.bestIf, h1])
        have hd : (s.state == 1) = false := by simp [h1]
        clear hN h1
        generalize Sl.best most l k = q at *
        go_wp2_with fail
        go_quiet (fail)
        go_wp2_with fail
        go_roundw
        case rel => exact ⟨k + 1, by omega, by go_num, by rw [HN.out], below_drewN hb2 _⟩
        case measure => simp [intOf]; omega
    · have hkn : k = n := by omega
      have HE := Lib.hid (show Sl.best most l k = Sl.best most l l.length from by rw [hkn, H.out])
      go_wp2_with fail
      go_ret
      exact ⟨ret_int HE.out, hb⟩

end Go.Proofs.YtengaccnncnipaaGreat

/- The waiting interrupts of a queue: their validity, in the program and in the reference. No condition. -/
namespace Go.Proofs.YtengaccnncnipaaGreat
open Go.RowKit Go.ChangeShapes Go.WideShapes Go.Deep

theorem nodup_bound : ∀ (k : Nat) (l : List Int), l.Nodup → (∀ x ∈ l, 0 ≤ x ∧ x < k) → l.length ≤ k
  | 0, l, _, hb => by
    cases l with
    | nil => simp
    | cons x l => have := hb x (by simp); omega
  | k + 1, l, hn, hb => by
    by_cases hm : (k : Int) ∈ l
    · have h1 := nodup_bound k (l.erase (k : Int)) (hn.erase _) (fun x hx => by
        have hx1 := List.mem_of_mem_erase hx
        have h2 := hb x hx1
        have h3 : x ≠ k := fun e => by rw [e] at hx; exact absurd hx (List.Nodup.not_mem_erase hn)
        omega)
      rw [List.length_erase_of_mem hm] at h1
      omega
    · have := nodup_bound k l hn (fun x hx => by
        have h2 := hb x hx
        have h3 : x ≠ k := fun e => hm (e ▸ hx)
        omega)
      omega

def Wt.isI (i : Int) (w : Wt) : Bool := w.irq == i
def Wt.prevOk (lw : List Wt) (w : Wt) : Nat → Bool
  | 0 => true
  | j + 1 => (lw.getD j default).lt w
def Wt.okAt (ls : List Sl) (lw : List Wt) (i : Nat) (w : Wt) : Bool := inB w.irq 0 7 && (inB w.prio 0 15 && (decide (Sl.ix ls w.irq < 0) && (!(lw.take i).any (Wt.isI w.irq) && Wt.prevOk lw w i)))
def Wt.upTo (ls : List Sl) (lw : List Wt) : Nat → Bool
  | 0 => true
  | k + 1 => Wt.upTo ls lw k && (match lw[k]? with | some w => Wt.okAt ls lw k w | none => true)
def Qu.parts (ls : List Sl) (lw : List Wt) : Bool := Sl.good ls && Wt.upTo ls lw lw.length
theorem Wt.upTo_succ {ls : List Sl} {lw : List Wt} {k : Nat} {w : Wt} (h : lw[k]? = some w) : Wt.upTo ls lw (k + 1) = (Wt.upTo ls lw k && Wt.okAt ls lw k w) := by simp [Wt.upTo, h]
theorem Wt.upTo_mono {ls : List Sl} {lw : List Wt} : ∀ {k m : Nat}, k ≤ m → Wt.upTo ls lw m = true → Wt.upTo ls lw k = true
  | k, 0, h, h2 => by obtain rfl : k = 0 := by omega
                      exact h2
  | k, m + 1, h, h2 => by
    rcases Nat.eq_or_lt_of_le h with rfl | h
    · exact h2
    · rw [Wt.upTo, Bool.and_eq_true] at h2
      exact Wt.upTo_mono (by omega) h2.1
theorem Wt.upTo_at {ls : List Sl} {lw : List Wt} {m k : Nat} {w : Wt} (h : Wt.upTo ls lw m = true) (hk : k < m) (hw : lw[k]? = some w) : Wt.okAt ls lw k w = true := by
  have := Wt.upTo_mono (show k + 1 ≤ m by omega) h
  rw [Wt.upTo_succ hw, Bool.and_eq_true] at this
  exact this.2
theorem Qu.parts_no {ls : List Sl} {lw : List Wt} {k : Nat} {w : Wt} (hk : k < lw.length) (h : lw[k]? = some w) (h2 : Wt.okAt ls lw k w = false) : Qu.parts ls lw = false := by
  cases hq : Wt.upTo ls lw lw.length
  · simp [Qu.parts, hq]
  · have := Wt.upTo_at hq hk h
    rw [h2] at this; cases this
theorem Qu.parts_get {ls : List Sl} {lw : List Wt} (h : Qu.parts ls lw = true) : Sl.good ls = true ∧ Wt.upTo ls lw lw.length = true := by simpa [Qu.parts] using h
theorem Wt.upTo_nodup {ls : List Sl} {lw : List Wt} (h : Wt.upTo ls lw lw.length = true) : (lw.map Wt.irq).Nodup := by
  unfold List.Nodup
  rw [List.pairwise_map, List.pairwise_iff_getElem]
  intro i j hi hj hij he
  have := Wt.upTo_at h hj (List.getElem?_eq_getElem hj)
  simp only [Wt.okAt, Bool.and_eq_true, Bool.not_eq_true'] at this
  have h2 := List.any_eq_false.1 this.2.2.2.1 lw[i] (List.mem_of_getElem? (by rw [List.getElem?_take, if_pos hij]; exact List.getElem?_eq_getElem hi))
  simp [Wt.isI, he] at h2
theorem Wt.upTo_len {ls : List Sl} {lw : List Wt} (h : Wt.upTo ls lw lw.length = true) : lw.length ≤ 8 := by
  have := nodup_bound 8 (lw.map Wt.irq) (Wt.upTo_nodup h) (fun x hx => by
    obtain ⟨w, hw, rfl⟩ := List.mem_map.1 hx
    obtain ⟨k, hk⟩ := List.getElem?_of_mem hw
    have h2 := Wt.upTo_at h (List.getElem?_eq_some_iff.1 hk).1 hk
    simp only [Wt.okAt, Bool.and_eq_true] at h2
    have := inB_true h2.1
    omega)
  simpa using this
theorem Qu.parts_len {ls : List Sl} {lw : List Wt} (h : Qu.parts ls lw = true) : lw.length ≤ 8 := Wt.upTo_len (Qu.parts_get h).2

theorem urg_pos (x y : Wt) : 0 < urg x y ↔ y.lt x = true := by
  unfold urg orI cmpI Wt.lt
  simp only [Bool.or_eq_true, Bool.and_eq_true, decide_eq_true_eq]
  repeat' split
  all_goals omega

theorem waitClo_any (i : Int) (w : World) {B : Nat} (hB : w.cell? ⟨B, 0, none⟩ = some (.int .i64 i)) (hz : B < w.heap.size) (s : Wt) (W : World) (hb : Below w.heap.size w W) :
    Calls Tryz.prog 178 (#[s.val] ++ #[.pointer (some ⟨B, 0, none⟩)]) W fun e w' => e = .returned (.bool (Wt.isI i s)) ∧ Below W.heap.size W w' := by
  rw [← hb.cell (p := ⟨B, 0, none⟩) hz] at hB
  have hBz : B < W.heap.size := Nat.lt_of_lt_of_le hz hb.size
  clear hb hz
  unfold Wt.val Wt.isI
  go_enter Tryz.func178, Tryz.ntmps178
  go_wp2
  go_ret
  exact ⟨rfl, by go_grown⟩

theorem waiterIndex_any (v : Value) (l : List Wt) (i : Int) (w : World) {lo hi : Nat} (h : Rd Wt.cells 2 w lo hi v l) (hh : hi ≤ w.heap.size) : Calls Tryz.prog 150 #[v, .int .i64 i] w fun e w' => e = .returned (.int .i64 (findIx (Wt.isI i) l)) ∧ Below w.heap.size w w' := by
  have b0 := (Below.refl w.heap.size w).alloc (Nat.le_refl _) (.cells #[.int .i64 i] 3)
  have k0 : (w.alloc (.cells #[.int .i64 i] 3)).cell? ⟨w.heap.size, 0, none⟩ = some (.int .i64 i) := by simp
  have z0 : (w.alloc (.cells #[.int .i64 i] 3)).heap.size = w.heap.size + 1 := by simp
  have hrd := h.below b0 hh
  have c1 := Wt.index_any 178 #[.pointer (some ⟨w.heap.size, 0, none⟩)] (Wt.isI i) v l _ hrd (by omega) (enters Tryz.func178 (by kernel_rfl) rfl) (fun t W _ hW => waitClo_any i _ k0 (by omega) t W hW)
  obtain ⟨A, n, c, rfl, H, hc, hm⟩ := h.form
  go_enter Tryz.func150, Tryz.ntmps150
  go_wp2_with fail
  refine c1.mono ?_; rintro e w1 ⟨rfl, b1⟩
  go_wp2_with fail
  go_ret
  exact ⟨rfl, b0.trans (b1.mono (by omega))⟩

end Go.Proofs.YtengaccnncnipaaGreat

/- Whether slots and waiting interrupts are those of a queue, in the program. No condition. -/
namespace Go.Proofs.YtengaccnncnipaaGreat
open Go.RowKit Go.ChangeShapes Go.WideShapes Go.Deep

theorem findIx_neg {α : Type} (p : α → Bool) (l : List α) : decide (findIx p l < 0) = !l.any p := by
  have := findIx_nonneg p l
  rw [← this]
  by_cases h : 0 ≤ findIx p l <;> simp [h] <;> omega

set_option maxHeartbeats 8000000 in
theorem areParts_any (vs vw : Value) (ls : List Sl) (lw : List Wt) (w : World) {lo hi lo2 hi2 : Nat} (h : Rd Sl.cells 3 w lo hi vs ls) (h2 : Rd Wt.cells 2 w lo2 hi2 vw lw) (hh : hi ≤ w.heap.size) (hh2 : hi2 ≤ w.heap.size) :
    Calls Tryz.prog 124 #[vs, vw] w fun e w' => e = .returned (.bool (Qu.parts ls lw)) ∧ Below w.heap.size w w' := by
  have c0 := implAreSlots_any vs ls w h hh
  have hs := h
  have hw := h2
  obtain ⟨A0, n0, d0, rfl, H0, hd0, hm0⟩ := h.form
  obtain ⟨A, n, c, rfl, H, hc, hm⟩ := h2.form
  clear h h2
  cases hg : Sl.good ls
  · have HF := Lib.hid (show Qu.parts ls lw = false from by simp [Qu.parts, hg])
    rw [hg] at c0
    clear hg
    go_enter Tryz.func124, Tryz.ntmps124
    go_wp2_with fail
    refine c0.mono ?_; rintro q_ w1 ⟨rfl, b1⟩
    go_wp2_with fail
    go_ret
    exact ⟨ret_bool HF.out.symm, b1⟩
  · have HG := Lib.hid hg
    rw [hg] at c0
    clear hg
    have c1 := fun x W => isIrq_any x W
    have c2 := fun x W => isPriority_any x W
    go_enter Tryz.func124, Tryz.ntmps124
    go_wp2_with fail
    refine c0.mono ?_; rintro q_ w1 ⟨rfl, b1⟩
    go_wp2_with fail
    go_loopw [12] (fun i wr => ∃ k : Nat, k ≤ n ∧ i = .int .i64 k ∧ Below w.heap.size w wr ∧ Wt.upTo ls lw k = true) (fun i _ => n - (intOf i).toNat)
    case atStart => exact ⟨0, Nat.zero_le _, rfl, b1, rfl⟩
    case round =>
      clear b1 c0
      obtain ⟨k, hk, rfl, hb, he⟩ := hrel
      have HE := Lib.hid he
      clear he
      have hbs := hb.size
      by_cases hlt : k < n
      · obtain ⟨b, off, s, rfl, ht, _, hbl, f0, f1⟩ := Wt.get hw hlt hb hh2
        have hb2 := hb.alloc hb.size (.cells #[.int .i64 s.irq, .int .i64 s.prio] 134)
        have HN := Lib.hid (fun hq => Qu.parts_no (ls := ls) (k := k) (w := s) (by rw [← H.out]; exact hlt) ht.out hq)
        have HY := Lib.hid (fun (hq : Wt.okAt ls lw k s = true) => show Wt.upTo ls lw (k + 1) = true from by rw [Wt.upTo_succ ht.out, HE.out, hq]; rfl)
        have hbw : b < wr.heap.size := by omega
        have c1 := c1 s.irq
        have c2 := c2 s.prio
        have hkn : k ≤ n := by omega
        have hkc : k ≤ c := by omega
        cases h1 : inB s.irq 0 7
        · have HF := Lib.hid (HN.out (by simp [Wt.okAt, h1]))
          rw [h1] at c1
          clear h1 HN HY c2
          go_wp2_with fail
          have k0 : (wr.alloc (.cells #[.int .i64 s.irq, .int .i64 s.prio] 134)).cell? ⟨wr.heap.size, 0, none⟩ = some (.int .i64 s.irq) := by simp
          have k1 : (wr.alloc (.cells #[.int .i64 s.irq, .int .i64 s.prio] 134)).cell? ⟨wr.heap.size, 1, none⟩ = some (.int .i64 s.prio) := by simp
          clear f0 f1
          have hs2 := hs.below hb2 hh
          have hw2 := hw.below hb2 hh2
          have hz1 := Nat.le_trans hh hb2.size
          have hz2 := Nat.le_trans hh2 hb2.size
          generalize wr.alloc _ = w2 at hb2 k0 k1 hs2 hw2 hz1 hz2 ⊢
          have e0 := cell_ext k0; have e1 := cell_ext k1
          refine wp_region_ext_all (by kernel_rfl) (by kernel_rfl) ?_
          repeat (go_big_quiet_step ((go_at_call 69; exact calls_ext0 (c1 _))))
          refine wpQuiet_nil ?_
          intro w3 b3
          clear e0 e1
          have hb3 := hb2.trans (b3.mono hb2.size)
          go_wp2_with fail
          go_ret
          exact ⟨ret_bool HF.out.symm, hb3⟩
        · cases h2 : inB s.prio 0 15
          · have HF := Lib.hid (HN.out (by simp [Wt.okAt, h2]))
            rw [h1] at c1
            rw [h2] at c2
            clear h1 h2 HN HY
            go_wp2_with fail
            have k0 : (wr.alloc (.cells #[.int .i64 s.irq, .int .i64 s.prio] 134)).cell? ⟨wr.heap.size, 0, none⟩ = some (.int .i64 s.irq) := by simp
            have k1 : (wr.alloc (.cells #[.int .i64 s.irq, .int .i64 s.prio] 134)).cell? ⟨wr.heap.size, 1, none⟩ = some (.int .i64 s.prio) := by simp
            clear f0 f1
            have hs2 := hs.below hb2 hh
            have hw2 := hw.below hb2 hh2
            have hz1 := Nat.le_trans hh hb2.size
            have hz2 := Nat.le_trans hh2 hb2.size
            generalize wr.alloc _ = w2 at hb2 k0 k1 hs2 hw2 hz1 hz2 ⊢
            have e0 := cell_ext k0; have e1 := cell_ext k1
            refine wp_region_ext_all (by kernel_rfl) (by kernel_rfl) ?_
            repeat (go_big_quiet_step (first | (go_at_call 69; exact calls_ext0 (c1 _)) | (go_at_call 70; exact calls_ext0 (c2 _))))
            refine wpQuiet_nil ?_
            intro w3 b3
            clear e0 e1
            have hb3 := hb2.trans (b3.mono hb2.size)
            go_wp2_with fail
            go_ret
            exact ⟨ret_bool HF.out.symm, hb3⟩
          · cases h3 : decide (Sl.ix ls s.irq < 0)
            · have HF := Lib.hid (HN.out (by simp [Wt.okAt, h3]))
              have hz0 : decide ((0 : Int) ≤ Sl.ix ls s.irq) = true := decide_eq_true (by have := of_decide_eq_false h3; omega)
              rw [h1] at c1
              rw [h2] at c2
              clear h1 h2 h3 HN HY
              go_wp2_with fail
              have k0 : (wr.alloc (.cells #[.int .i64 s.irq, .int .i64 s.prio] 134)).cell? ⟨wr.heap.size, 0, none⟩ = some (.int .i64 s.irq) := by simp
              have k1 : (wr.alloc (.cells #[.int .i64 s.irq, .int .i64 s.prio] 134)).cell? ⟨wr.heap.size, 1, none⟩ = some (.int .i64 s.prio) := by simp
              clear f0 f1
              have hs2 := hs.below hb2 hh
              have hw2 := hw.below hb2 hh2
              have hz1 := Nat.le_trans hh hb2.size
              have hz2 := Nat.le_trans hh2 hb2.size
              generalize wr.alloc _ = w2 at hb2 k0 k1 hs2 hw2 hz1 hz2 ⊢
              have e0 := cell_ext k0; have e1 := cell_ext k1
              have c4 := fun p => implFind_b _ _ s.irq (ext w2 p) (hs2.below (below_ext w2 p) hz1) (Nat.le_trans hz1 (below_ext w2 p).size)
              generalize Sl.ix ls s.irq = z at c4 hz0
              refine wp_region_ext_all (by kernel_rfl) (by kernel_rfl) ?_
              repeat (go_big_quiet_step (first | (go_at_call 69; exact calls_ext0 (c1 _)) | (go_at_call 70; exact calls_ext0 (c2 _)) | (go_at_call 129; exact calls_ext (c4 _))))
              refine wpQuiet_nil ?_
              intro w3 b3
              clear e0 e1
              have hb3 := hb2.trans (b3.mono hb2.size)
              go_wp2_with fail
              go_ret
              exact ⟨ret_bool HF.out.symm, hb3⟩
            · have hz0 : decide ((0 : Int) ≤ Sl.ix ls s.irq) = false := decide_eq_false (by have := of_decide_eq_true h3; omega)
              cases h4 : (lw.take k).any (Wt.isI s.irq)
              rotate_left
              · have HF := Lib.hid (HN.out (by simp only [Wt.okAt, h4]; simp))
                have hy0 : decide ((0 : Int) ≤ findIx (Wt.isI s.irq) (lw.take k)) = true := by rw [findIx_nonneg, h4]
                rw [h1] at c1
                rw [h2] at c2
                clear h1 h2 h3 h4 HN HY
                go_wp2_with fail
                have k0 : (wr.alloc (.cells #[.int .i64 s.irq, .int .i64 s.prio] 134)).cell? ⟨wr.heap.size, 0, none⟩ = some (.int .i64 s.irq) := by simp
                have k1 : (wr.alloc (.cells #[.int .i64 s.irq, .int .i64 s.prio] 134)).cell? ⟨wr.heap.size, 1, none⟩ = some (.int .i64 s.prio) := by simp
                clear f0 f1
                have hs2 := hs.below hb2 hh
                have hw2 := hw.below hb2 hh2
                have hz1 := Nat.le_trans hh hb2.size
                have hz2 := Nat.le_trans hh2 hb2.size
                generalize wr.alloc _ = w2 at hb2 k0 k1 hs2 hw2 hz1 hz2 ⊢
                have e0 := cell_ext k0; have e1 := cell_ext k1
                have c4 := fun p => implFind_b _ _ s.irq (ext w2 p) (hs2.below (below_ext w2 p) hz1) (Nat.le_trans hz1 (below_ext w2 p).size)
                have c5 := fun p => waiterIndex_any _ _ s.irq (ext w2 p) ((hw2.take_ hkn).below (below_ext w2 p) hz2) (Nat.le_trans hz2 (below_ext w2 p).size)
                generalize Sl.ix ls s.irq = z at c4 hz0
                generalize findIx (Wt.isI s.irq) (lw.take k) = y at c5 hy0
                refine wp_region_ext_all (by kernel_rfl) (by kernel_rfl) ?_
                repeat (go_big_quiet_step (first | (go_at_call 69; exact calls_ext0 (c1 _)) | (go_at_call 70; exact calls_ext0 (c2 _)) | (go_at_call 129; exact calls_ext (c4 _)) | (go_at_call 150; exact calls_ext (c5 _))))
                refine wpQuiet_nil ?_
                intro w3 b3
                clear e0 e1
                have hb3 := hb2.trans (b3.mono hb2.size)
                go_wp2_with fail
                go_ret
                exact ⟨ret_bool HF.out.symm, hb3⟩
              · have hy0 : decide ((0 : Int) ≤ findIx (Wt.isI s.irq) (lw.take k)) = false := by rw [findIx_nonneg, h4]
                by_cases hk0 : k = 0
                · have HF := Lib.hid (HY.out (by subst hk0; simp only [Wt.okAt, h1, h2, h3, h4]; rfl))
                  have hd : decide ((0 : Int) < (k : Int)) = false := by subst hk0; simp
                  have hd' : decide (0 < k) = false := by subst hk0; simp
                  rw [h1] at c1
                  rw [h2] at c2
                  clear h1 h2 h3 h4 HN HY hk0
                  go_wp2_with fail
                  have k0 : (wr.alloc (.cells #[.int .i64 s.irq, .int .i64 s.prio] 134)).cell? ⟨wr.heap.size, 0, none⟩ = some (.int .i64 s.irq) := by simp
                  have k1 : (wr.alloc (.cells #[.int .i64 s.irq, .int .i64 s.prio] 134)).cell? ⟨wr.heap.size, 1, none⟩ = some (.int .i64 s.prio) := by simp
                  clear f0 f1
                  have hs2 := hs.below hb2 hh
                  have hw2 := hw.below hb2 hh2
                  have hz1 := Nat.le_trans hh hb2.size
                  have hz2 := Nat.le_trans hh2 hb2.size
                  generalize wr.alloc _ = w2 at hb2 k0 k1 hs2 hw2 hz1 hz2 ⊢
                  have e0 := cell_ext k0; have e1 := cell_ext k1
                  have c4 := fun p => implFind_b _ _ s.irq (ext w2 p) (hs2.below (below_ext w2 p) hz1) (Nat.le_trans hz1 (below_ext w2 p).size)
                  have c5 := fun p => waiterIndex_any _ _ s.irq (ext w2 p) ((hw2.take_ hkn).below (below_ext w2 p) hz2) (Nat.le_trans hz2 (below_ext w2 p).size)
                  generalize Sl.ix ls s.irq = z at c4 hz0
                  generalize findIx (Wt.isI s.irq) (lw.take k) = y at c5 hy0
                  refine wp_region_ext_all (by kernel_rfl) (by kernel_rfl) ?_
                  repeat (go_big_quiet_step (first | (go_at_call 69; exact calls_ext0 (c1 _)) | (go_at_call 70; exact calls_ext0 (c2 _)) | (go_at_call 129; exact calls_ext (c4 _)) | (go_at_call 150; exact calls_ext (c5 _))))
                  refine wpQuiet_nil ?_
                  intro w3 b3
                  clear e0 e1
                  have hb3 := hb2.trans (b3.mono hb2.size)
                  go_wp2_with fail
                  go_roundw
                  case rel => exact ⟨k + 1, by omega, by go_num, hb3, HF.out⟩
                  case measure => simp [intOf]; omega
                · obtain ⟨j, rfl⟩ : ∃ j, k = j + 1 := ⟨k - 1, by omega⟩
                  obtain ⟨_, _, u, e, hu, _, _, g0, g1⟩ := Wt.get hw (k := j) (by omega) hb hh2
                  injection e with e
                  injection e with e1 e2
                  subst e1; subst e2
                  have hjn : (j : Int) < (n : Int) := by omega
                  have hd : decide ((0 : Int) < ((j + 1 : Nat) : Int)) = true := by simp
                  have hur := urg_neg u s
                  have hpv : Wt.prevOk lw s (j + 1) = u.lt s := by simp [Wt.prevOk, hu.out]
                  cases hq : u.lt s
                  · have HF := Lib.hid (HN.out (by simp only [Wt.okAt, hpv, hq]; simp))
                    have hd2 : decide ((0 : Int) ≤ urg ⟨u.irq, u.prio⟩ ⟨s.irq, s.prio⟩) = true := decide_eq_true (by rw [hq] at hur; have := mt hur.1 (by simp); change 0 ≤ urg u s; omega)
                    rw [h1] at c1
                    rw [h2] at c2
                    clear h1 h2 h3 h4 HN HY hk0 hur hq hpv hu
                    go_wp2_with fail
                    have k0 : (wr.alloc (.cells #[.int .i64 s.irq, .int .i64 s.prio] 134)).cell? ⟨wr.heap.size, 0, none⟩ = some (.int .i64 s.irq) := by simp
                    have k1 : (wr.alloc (.cells #[.int .i64 s.irq, .int .i64 s.prio] 134)).cell? ⟨wr.heap.size, 1, none⟩ = some (.int .i64 s.prio) := by simp
                    have k2 : (wr.alloc (.cells #[.int .i64 s.irq, .int .i64 s.prio] 134)).cell? ⟨b, off + j * 2, none⟩ = some (.int .i64 u.irq) := by rw [World.cell?_alloc_lt _ _ _ hbw]; exact g0
                    have k3 : (wr.alloc (.cells #[.int .i64 s.irq, .int .i64 s.prio] 134)).cell? ⟨b, off + j * 2 + 1, none⟩ = some (.int .i64 u.prio) := by rw [World.cell?_alloc_lt _ _ _ hbw]; exact g1
                    clear g0 g1
                    clear f0 f1
                    have hs2 := hs.below hb2 hh
                    have hw2 := hw.below hb2 hh2
                    have hz1 := Nat.le_trans hh hb2.size
                    have hz2 := Nat.le_trans hh2 hb2.size
                    generalize wr.alloc _ = w2 at hb2 k0 k1 k2 k3 hs2 hw2 hz1 hz2 ⊢
                    have e0 := cell_ext k0; have e1 := cell_ext k1; have e2 := cell_ext k2; have e3 := cell_ext k3
                    have c4 := fun p => implFind_b _ _ s.irq (ext w2 p) (hs2.below (below_ext w2 p) hz1) (Nat.le_trans hz1 (below_ext w2 p).size)
                    have c5 := fun p => waiterIndex_any _ _ s.irq (ext w2 p) ((hw2.take_ hkn).below (below_ext w2 p) hz2) (Nat.le_trans hz2 (below_ext w2 p).size)
                    generalize Sl.ix ls s.irq = z at c4 hz0
                    generalize findIx (Wt.isI s.irq) (lw.take (j + 1)) = y at c5 hy0
                    refine wp_region_ext_all (by kernel_rfl) (by kernel_rfl) ?_
                    repeat (go_big_quiet_step (first | (go_at_call 69; exact calls_ext0 (c1 _)) | (go_at_call 70; exact calls_ext0 (c2 _)) | (go_at_call 129; exact calls_ext (c4 _)) | (go_at_call 150; exact calls_ext (c5 _)) | (go_at_call 153; exact calls_ext (compareUrgency_at _ _ _ _ _))))
                    refine wpQuiet_nil ?_
                    intro w3 b3
                    clear e0 e1 e2 e3
                    have hb3 := hb2.trans (b3.mono hb2.size)
                    go_wp2_with fail
                    go_ret
                    exact ⟨ret_bool HF.out.symm, hb3⟩
                  · have HF := Lib.hid (HY.out (by simp only [Wt.okAt, h1, h2, h3, h4, hpv, hq]; rfl))
                    have hd2 : decide ((0 : Int) ≤ urg ⟨u.irq, u.prio⟩ ⟨s.irq, s.prio⟩) = false := decide_eq_false (by have := hur.2 hq; change ¬ 0 ≤ urg u s; omega)
                    rw [h1] at c1
                    rw [h2] at c2
                    clear h1 h2 h3 h4 HN HY hk0 hur hq hpv hu
                    go_wp2_with fail
                    have k0 : (wr.alloc (.cells #[.int .i64 s.irq, .int .i64 s.prio] 134)).cell? ⟨wr.heap.size, 0, none⟩ = some (.int .i64 s.irq) := by simp
                    have k1 : (wr.alloc (.cells #[.int .i64 s.irq, .int .i64 s.prio] 134)).cell? ⟨wr.heap.size, 1, none⟩ = some (.int .i64 s.prio) := by simp
                    have k2 : (wr.alloc (.cells #[.int .i64 s.irq, .int .i64 s.prio] 134)).cell? ⟨b, off + j * 2, none⟩ = some (.int .i64 u.irq) := by rw [World.cell?_alloc_lt _ _ _ hbw]; exact g0
                    have k3 : (wr.alloc (.cells #[.int .i64 s.irq, .int .i64 s.prio] 134)).cell? ⟨b, off + j * 2 + 1, none⟩ = some (.int .i64 u.prio) := by rw [World.cell?_alloc_lt _ _ _ hbw]; exact g1
                    clear g0 g1
                    clear f0 f1
                    have hs2 := hs.below hb2 hh
                    have hw2 := hw.below hb2 hh2
                    have hz1 := Nat.le_trans hh hb2.size
                    have hz2 := Nat.le_trans hh2 hb2.size
                    generalize wr.alloc _ = w2 at hb2 k0 k1 k2 k3 hs2 hw2 hz1 hz2 ⊢
                    have e0 := cell_ext k0; have e1 := cell_ext k1; have e2 := cell_ext k2; have e3 := cell_ext k3
                    have c4 := fun p => implFind_b _ _ s.irq (ext w2 p) (hs2.below (below_ext w2 p) hz1) (Nat.le_trans hz1 (below_ext w2 p).size)
                    have c5 := fun p => waiterIndex_any _ _ s.irq (ext w2 p) ((hw2.take_ hkn).below (below_ext w2 p) hz2) (Nat.le_trans hz2 (below_ext w2 p).size)
                    generalize Sl.ix ls s.irq = z at c4 hz0
                    generalize findIx (Wt.isI s.irq) (lw.take (j + 1)) = y at c5 hy0
                    refine wp_region_ext_all (by kernel_rfl) (by kernel_rfl) ?_
                    repeat (go_big_quiet_step (first | (go_at_call 69; exact calls_ext0 (c1 _)) | (go_at_call 70; exact calls_ext0 (c2 _)) | (go_at_call 129; exact calls_ext (c4 _)) | (go_at_call 150; exact calls_ext (c5 _)) | (go_at_call 153; exact calls_ext (compareUrgency_at _ _ _ _ _))))
                    refine wpQuiet_nil ?_
                    intro w3 b3
                    clear e0 e1 e2 e3
                    have hb3 := hb2.trans (b3.mono hb2.size)
                    go_wp2_with fail
                    go_roundw
                    case rel => exact ⟨j + 1 + 1, by omega, by go_num, hb3, HF.out⟩
                    case measure => simp [intOf]; omega
      · have HF := Lib.hid (show Qu.parts ls lw = true from by rw [Qu.parts, HG.out, Wt.upTo_mono (by rw [← H.out]; omega) HE.out]; rfl)
        go_wp2_with fail
        go_ret
        exact ⟨ret_bool HF.out.symm, hb⟩

end Go.Proofs.YtengaccnncnipaaGreat

/- Whether slots and waiting interrupts are those of a queue, in the reference. No condition. -/
namespace Go.Proofs.YtengaccnncnipaaGreat
open Go.RowKit Go.ChangeShapes Go.WideShapes Go.Deep

theorem specFind_w (v : Value) (l : List Sl) (i : Int) (w : World) {lo hi : Nat} (h : Rd Sl.cells 3 w lo hi v l) (hh : hi ≤ w.heap.size) : Calls Tryz.prog 135 #[v, .int .i64 i] w fun e w' => e = .returned (.int .i64 (Sl.ix l i)) ∧ w = w' := l8Find_any v l i w h hh

set_option maxHeartbeats 8000000 in
theorem l9Waiting_any (vs vw : Value) (ls : List Sl) (lw : List Wt) (w : World) {lo hi lo2 hi2 : Nat} (h : Rd Sl.cells 3 w lo hi vs ls) (h2 : Rd Wt.cells 2 w lo2 hi2 vw lw) (hh : hi ≤ w.heap.size) (hh2 : hi2 ≤ w.heap.size) :
    Calls Tryz.prog 132 #[vs, vw] w fun e w' => e = .returned (.bool (Qu.parts ls lw)) ∧ Below w.heap.size w w' := by
  have c0 := fun (W : World) (kb : Below w.heap.size w W) => l8Good_any vs ls W (h.below kb hh) (Nat.le_trans hh kb.size)
  have hs := h
  have hw := h2
  obtain ⟨A0, n0, d0, rfl, H0, hd0, hm0⟩ := h.form
  obtain ⟨A, n, c, rfl, H, hc, hm⟩ := h2.form
  clear h h2
  have c1 := fun x W => l6Irq_any x W
  have c2 := fun x W => l6Prio_any x W
  go_enter Tryz.func132, Tryz.ntmps132
  go_wp2_with fail
  go_loopw [5] (fun i wr => ∃ k : Nat, k ≤ n ∧ k ≤ 9 ∧ i = .int .i64 k ∧ Below w.heap.size w wr ∧ Wt.upTo ls lw k = true) (fun i _ => n - (intOf i).toNat)
  case atStart => exact ⟨0, Nat.zero_le _, by omega, rfl, Below.refl _ _, rfl⟩
  case round =>
    obtain ⟨k, hk, hk9, rfl, hb, he⟩ := hrel
    have HE := Lib.hid he
    clear he
    have hbs := hb.size
    have c0 := c0 wr hb
    by_cases hlt : k < n
    · have hdn : decide ((k : Int) < (n : Int)) = true := decide_eq_true (by omega)
      by_cases hk8 : k ≤ 8
      · have hd8 : decide ((k : Int) ≤ 8) = true := decide_eq_true (by omega)
        obtain ⟨b, off, s, rfl, ht, _, hbl, f0, f1⟩ := Wt.get hw hlt hb hh2
        have hb2 := hb.alloc hb.size (.cells #[.int .i64 s.irq, .int .i64 s.prio] 134)
        have HN := Lib.hid (fun hq => Qu.parts_no (ls := ls) (k := k) (w := s) (by rw [← H.out]; exact hlt) ht.out hq)
        have HY := Lib.hid (fun (hq : Wt.okAt ls lw k s = true) => show Wt.upTo ls lw (k + 1) = true from by rw [Wt.upTo_succ ht.out, HE.out, hq]; rfl)
        have hbw : b < wr.heap.size := by omega
        have c1 := c1 s.irq
        have c2 := c2 s.prio
        have c4 := specFind_w _ ls s.irq _ (hs.below hb2 hh) (Nat.le_trans hh hb2.size)
        clear c0
        cases h1 : inB s.irq 0 7
        · have HF := Lib.hid (HN.out (by simp [Wt.okAt, h1]))
          rw [h1] at c1
          clear h1 HN HY
          go_wp2_with fail
          refine (c1 _).mono ?_; rintro q_ w' ⟨rfl, rfl⟩
          go_wp2_with fail
          go_ret
          exact ⟨ret_bool HF.out.symm, hb2⟩
        · cases h2 : inB s.prio 0 15
          · have HF := Lib.hid (HN.out (by simp [Wt.okAt, h2]))
            rw [h1] at c1
            rw [h2] at c2
            clear h1 h2 HN HY
            go_wp2_with fail
            refine (c1 _).mono ?_; rintro q_ w' ⟨rfl, rfl⟩
            go_wp2_with fail
            refine (c2 _).mono ?_; rintro q_ w' ⟨rfl, rfl⟩
            go_wp2_with fail
            go_ret
            exact ⟨ret_bool HF.out.symm, hb2⟩
          · cases h3 : decide (Sl.ix ls s.irq < 0)
            · have HF := Lib.hid (HN.out (by simp [Wt.okAt, h3]))
              have hz0 : decide ((0 : Int) ≤ Sl.ix ls s.irq) = true := decide_eq_true (by have := of_decide_eq_false h3; omega)
              generalize Sl.ix ls s.irq = z at c4 hz0
              rw [h1] at c1
              rw [h2] at c2
              clear h1 h2 h3 HN HY
              go_wp2_with fail
              refine (c1 _).mono ?_; rintro q_ w' ⟨rfl, rfl⟩
              go_wp2_with fail
              refine (c2 _).mono ?_; rintro q_ w' ⟨rfl, rfl⟩
              go_wp2_with fail
              refine c4.mono ?_; rintro q_ w' ⟨rfl, rfl⟩
              go_wp2_with fail
              go_ret
              exact ⟨ret_bool HF.out.symm, hb2⟩
            · have hz0 : decide ((0 : Int) ≤ Sl.ix ls s.irq) = false := decide_eq_false (by have := of_decide_eq_true h3; omega)
              rw [h1] at c1
              rw [h2] at c2
              generalize hix : Sl.ix ls s.irq = z at c4 hz0 h3
              have h3' : decide (Sl.ix ls s.irq < 0) = true := by rw [hix]; exact h3
              clear h3 hix
              have h3 := Lib.hid h3'
              have h1 := Lib.hid h1
              have h2 := Lib.hid h2
              clear h3'
              by_cases hk0 : k = 0
              · have HP := Lib.hid (show Wt.prevOk lw s k = true from by subst hk0; rfl)
                have hd : decide ((0 : Int) < (k : Int)) = false := by subst hk0; simp
                have hd' : decide (0 < k) = false := by subst hk0; simp
                clear hk0
                go_wp2_with fail
                refine (c1 _).mono ?_; rintro q_ w' ⟨rfl, rfl⟩
                go_wp2_with fail
                refine (c2 _).mono ?_; rintro q_ w' ⟨rfl, rfl⟩
                go_wp2_with fail
                refine c4.mono ?_; rintro q_ w' ⟨rfl, rfl⟩
                go_wp2_with fail
                go_quiet (fail)
                go_wp2_with fail
                have hbI := below_drewN hb2 nq
                have k0 : ((wr.alloc (.cells #[.int .i64 s.irq, .int .i64 s.prio] 134)).drewN nq).cell? ⟨wr.heap.size, 0, none⟩ = some (.int .i64 s.irq) := by simp
                clear f0 f1
                generalize (wr.alloc (.cells #[.int .i64 s.irq, .int .i64 s.prio] 134)).drewN nq = w2 at hbI k0 ⊢
                have zw2 : wr.heap.size < w2.heap.size := World.block_lt_of_cell? w2 _ k0
                generalize wr.heap.size = B at k0 zw2 ⊢
                go_loopw [7] (fun j wz => ∃ m : Nat, m ≤ k ∧ j = .int .i64 m ∧ Below w2.heap.size w2 wz ∧ (lw.take m).any (Wt.isI s.irq) = false) (fun j _ => k - (intOf j).toNat)
                case atStart => exact ⟨0, Nat.zero_le _, rfl, Below.refl _ _, by simp⟩
                case round =>
                  obtain ⟨m, hm1, rfl, hbm, hme⟩ := hrel
                  have HA := Lib.hid hme
                  clear hme
                  have hbz := hbI.trans (hbm.mono hbI.size)
                  have k2 := (hbm.cell (p := ⟨B, 0, none⟩) zw2).trans k0
                  by_cases hmk : m < k
                  · have hdm : decide ((m : Int) < (k : Int)) = true := decide_eq_true (by omega)
                    have hmn : (m : Int) < (n : Int) := by omega
                    obtain ⟨_, _, u, e, hu, _, _, g0, g1⟩ := Wt.get hw (k := m) (by omega) hbz hh2
                    injection e with e
                    injection e with e1 e2
                    subst e1; subst e2
                    by_cases hq : u.irq = s.irq
                    · have HF := Lib.hid (HN.out (by
                        have : (lw.take k).any (Wt.isI s.irq) = true := List.any_eq_true.2 ⟨u, List.mem_of_getElem? (by rw [List.getElem?_take, if_pos hmk]; exact hu.out), by simp [Wt.isI, hq]⟩
                        simp only [Wt.okAt, this]; simp))
                      rw [hq] at g0
                      clear hq
                      go_wp2_with fail
                      go_quiet (fail)
                      go_wp2_with fail
                      go_ret
                      exact ⟨ret_bool HF.out.symm, below_drewN hbz _⟩
                    · have hqd : (u.irq == s.irq) = false := by simp [hq]
                      have HF := Lib.hid (show (lw.take (m + 1)).any (Wt.isI s.irq) = false from by rw [List.take_add_one, List.any_append, HA.out, hu.out]; simp [Wt.isI, hq])
                      clear hq
                      go_wp2_with fail
                      go_quiet (fail)
                      go_wp2_with fail
                      go_roundw
                      case rel => exact ⟨m + 1, by omega, by go_num, below_drewN hbm _, HF.out⟩
                      case measure => simp [intOf]; omega
                  · have hdm : decide ((m : Int) < (k : Int)) = false := decide_eq_false (by omega)
                    have hmk2 : m = k := by omega
                    have HM2 := Lib.hid hmk2
                    clear hmk2
                    have HF := Lib.hid (HY.out (by rw [HM2.out] at HA; have ha := HA.out; have hp := HP.out; simp only [Wt.okAt, h1.out, h2.out, h3.out, ha, hp]; rfl))
                    go_wp2_with fail
                    go_roundw
                    case rel => exact ⟨k + 1, by omega, by omega, by go_num, hbz, HF.out⟩
                    case measure => simp [intOf]; omega
              · obtain ⟨j, hkj⟩ : ∃ j : Nat, k = j + 1 := ⟨k - 1, by omega⟩
                obtain ⟨_, _, u, e, hu, _, _, g0, g1⟩ := Wt.get hw (k := j) (by omega) hb hh2
                injection e with e
                injection e with e1 e2
                subst e1; subst e2
                have hpv : Wt.prevOk lw s k = u.lt s := by subst hkj; simp [Wt.prevOk, hu.out]
                have hjn : (j : Int) < (n : Int) := by omega
                have hkm : (k : Int) - 1 = (j : Int) := by omega
                have hd : decide ((0 : Int) < (k : Int)) = true := decide_eq_true (by omega)
                have hd' : decide (0 < k) = true := decide_eq_true (by omega)
                have c6 := fun W => l8Less_any u.prio u.irq s.prio s.irq W
                clear hkj hk0
                cases hq : Wt.lt ⟨u.irq, u.prio⟩ ⟨s.irq, s.prio⟩
                · have HF := Lib.hid (HN.out (by have hq2 : u.lt s = false := hq; simp only [Wt.okAt, hpv, hq2]; simp))
                  rw [hq] at c6
                  clear hq hpv hu
                  go_wp2_with fail
                  refine (c1 _).mono ?_; rintro q_ w' ⟨rfl, rfl⟩
                  go_wp2_with fail
                  refine (c2 _).mono ?_; rintro q_ w' ⟨rfl, rfl⟩
                  go_wp2_with fail
                  refine c4.mono ?_; rintro q_ w' ⟨rfl, rfl⟩
                  go_wp2_with fail
                  go_quiet ((go_at_call 171; refine Calls.quiet_of_same ((c6 _).mono fun _ _ h => ⟨h.1, h.2.symm⟩)))
                  go_wp2_with fail
                  go_ret
                  exact ⟨ret_bool HF.out.symm, below_drewN hb2 _⟩
                · have HP := Lib.hid (show Wt.prevOk lw s k = true from by rw [hpv]; exact hq)
                  rw [hq] at c6
                  clear hq hpv hu
                  go_wp2_with fail
                  refine (c1 _).mono ?_; rintro q_ w' ⟨rfl, rfl⟩
                  go_wp2_with fail
                  refine (c2 _).mono ?_; rintro q_ w' ⟨rfl, rfl⟩
                  go_wp2_with fail
                  refine c4.mono ?_; rintro q_ w' ⟨rfl, rfl⟩
                  go_wp2_with fail
                  go_quiet ((go_at_call 171; refine Calls.quiet_of_same ((c6 _).mono fun _ _ h => ⟨h.1, h.2.symm⟩)))
                  go_wp2_with fail
                  clear hkm g0 g1
                  have hbI := below_drewN hb2 nq
                  have k0 : ((wr.alloc (.cells #[.int .i64 s.irq, .int .i64 s.prio] 134)).drewN nq).cell? ⟨wr.heap.size, 0, none⟩ = some (.int .i64 s.irq) := by simp
                  clear f0 f1
                  generalize (wr.alloc (.cells #[.int .i64 s.irq, .int .i64 s.prio] 134)).drewN nq = w2 at hbI k0 ⊢
                  have zw2 : wr.heap.size < w2.heap.size := World.block_lt_of_cell? w2 _ k0
                  generalize wr.heap.size = B at k0 zw2 ⊢
                  go_loopw [7] (fun j wz => ∃ m : Nat, m ≤ k ∧ j = .int .i64 m ∧ Below w2.heap.size w2 wz ∧ (lw.take m).any (Wt.isI s.irq) = false) (fun j _ => k - (intOf j).toNat)
                  case atStart => exact ⟨0, Nat.zero_le _, rfl, Below.refl _ _, by simp⟩
                  case round =>
                    obtain ⟨m, hm1, rfl, hbm, hme⟩ := hrel
                    have HA := Lib.hid hme
                    clear hme
                    have hbz := hbI.trans (hbm.mono hbI.size)
                    have k2 := (hbm.cell (p := ⟨B, 0, none⟩) zw2).trans k0
                    by_cases hmk : m < k
                    · have hdm : decide ((m : Int) < (k : Int)) = true := decide_eq_true (by omega)
                      have hmn : (m : Int) < (n : Int) := by omega
                      obtain ⟨_, _, u, e, hu, _, _, g0, g1⟩ := Wt.get hw (k := m) (by omega) hbz hh2
                      injection e with e
                      injection e with e1 e2
                      subst e1; subst e2
                      by_cases hq : u.irq = s.irq
                      · have HF := Lib.hid (HN.out (by
                          have : (lw.take k).any (Wt.isI s.irq) = true := List.any_eq_true.2 ⟨u, List.mem_of_getElem? (by rw [List.getElem?_take, if_pos hmk]; exact hu.out), by simp [Wt.isI, hq]⟩
                          simp only [Wt.okAt, this]; simp))
                        rw [hq] at g0
                        clear hq
                        go_wp2_with fail
                        go_quiet (fail)
                        go_wp2_with fail
                        go_ret
                        exact ⟨ret_bool HF.out.symm, below_drewN hbz _⟩
                      · have hqd : (u.irq == s.irq) = false := by simp [hq]
                        have HF := Lib.hid (show (lw.take (m + 1)).any (Wt.isI s.irq) = false from by rw [List.take_add_one, List.any_append, HA.out, hu.out]; simp [Wt.isI, hq])
                        clear hq
                        go_wp2_with fail
                        go_quiet (fail)
                        go_wp2_with fail
                        go_roundw
                        case rel => exact ⟨m + 1, by omega, by go_num, below_drewN hbm _, HF.out⟩
                        case measure => simp [intOf]; omega
                    · have hdm : decide ((m : Int) < (k : Int)) = false := decide_eq_false (by omega)
                      have hmk2 : m = k := by omega
                      have HM2 := Lib.hid hmk2
                      clear hmk2
                      have HF := Lib.hid (HY.out (by rw [HM2.out] at HA; have ha := HA.out; have hp := HP.out; simp only [Wt.okAt, h1.out, h2.out, h3.out, ha, hp]; rfl))
                      go_wp2_with fail
                      go_roundw
                      case rel => exact ⟨k + 1, by omega, by omega, by go_num, hbz, HF.out⟩
                      case measure => simp [intOf]; omega
      · have hd8 : decide ((k : Int) ≤ 8) = false := decide_eq_false (by omega)
        have HF := Lib.hid (show Qu.parts ls lw = false from by
          cases hq : Qu.parts ls lw
          · rfl
          · have := Qu.parts_len hq; have := H.out; omega)
        have hn8 : decide ((n : Int) ≤ 8) = false := decide_eq_false (by omega)
        generalize Sl.good ls = g at c0
        cases g
        all_goals
          go_wp2_with fail
          refine c0.mono ?_; rintro q_ w1 ⟨rfl, b1⟩
          go_wp2_with fail
          go_ret
          exact ⟨ret_bool HF.out.symm, hb.trans (b1.mono hb.size)⟩
    · have hdn : decide ((k : Int) < (n : Int)) = false := decide_eq_false (by omega)
      have hu : Wt.upTo ls lw lw.length = true := Wt.upTo_mono (by rw [← H.out]; omega) HE.out
      have hl8 := Wt.upTo_len hu
      have hn8 : decide ((n : Int) ≤ 8) = true := decide_eq_true (by rw [H.out]; omega)
      have HF := Lib.hid (show Qu.parts ls lw = Sl.good ls from by rw [Qu.parts, hu, Bool.and_true])
      generalize Sl.good ls = g at c0 HF
      clear hu hl8
      cases g
      all_goals
        go_wp2_with fail
        refine c0.mono ?_; rintro q_ w1 ⟨rfl, b1⟩
        go_wp2_with fail
        go_ret
        exact ⟨ret_bool HF.out.symm, hb.trans (b1.mono hb.size)⟩

end Go.Proofs.YtengaccnncnipaaGreat
