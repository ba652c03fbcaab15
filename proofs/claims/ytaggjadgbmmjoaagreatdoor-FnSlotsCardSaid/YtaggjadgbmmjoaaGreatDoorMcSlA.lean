/- Lemmas and walks that the last text of this claim leans on, part 1. No condition. -/
import Derived.Test.YtaggjadgbmmjoaaGreatDoorRows
import Derived.WalkKit
import Derived.ProofKit
import Derived.WalkLawsBesides
import Derived.WalkSpells
import Derived.OpenShut
import Derived.Deep.Slices
import Derived.Deep.Fields
import Derived.Deep.AppendLies
import Derived.Maps.AppendAt
import Derived.Deep.Draws
import Derived.Deep.OwnRows
import Derived.Deep.QuietTactic
import Derived.Deep.RegionHeld3
import Derived.Deep.DeepFit
import Derived.Deep.LoopGhost
import Derived.StillTailTactics
import Derived.BigQuiet
import Derived.BigGuardPart
import Derived.Lib.Hide
import Derived.Lib.SmallJoins
import Derived.Outline
import Derived.Handy
import Derived.Deep.DeepCutAuto
import Derived.Laws.Bits64b
import Derived.Laws.CopyOwn
import Derived.Laws.Externs
import Derived.Laws.NewBlocks
import Derived.Lib.SliceRun
import Derived.StillTail
import Derived.Deep.RegionLaw
import Derived.Lib.BitFns
import Derived.Lib.ItoaNum
import Derived.Lib.Join
import Derived.Lib.Strings
import Derived.Shelf.Strconv.Itoa3
import Derived.Shelf.Strconv.ErrVar
import Derived.Shelf.Strings.OnBuilder
import Derived.Shelf.Strings.SplitShaped
import Derived.Shelf.Strings.Shaped
import Derived.Shelf.Small.Strs
import Derived.Shelf.Strconv.Atoi
import Derived.Lib.AtoiErrMem
import Derived.Lib.AppendIntMem
import Derived.Lib.SplitLaws
import Derived.Deep.Cut
import Derived.Lay
import Derived.MakeChecks
import Derived.Stop.LaidErr
import Derived.Lib.LaidTab
import Derived.Test.YtaggjadgbmmjoaaGreatDoorTie
import Derived.Test.YtaggjadgbmmjoaaGreatDoorCards
import Derived.LaidOnce
import Derived.SevenTiedAt
/- Plain lemmas about memory, used by all walks of this seat: a slice that reads as a list, a slice in memory of the call's own, and the frame of a law. No condition. -/
namespace Go.Proofs.YtaggjadgbmmjoaaGreatDoor
open Go.RowKit Go.ChangeShapes Go.WideShapes Go.Deep

theorem below_drewN {B : Nat} {a w : World} (h : Below B a w) (n : Nat) : Below B a (w.drewN n) := ⟨h.os, h.tape, h.output, h.size, h.block⟩
theorem ret_bool {a b : Bool} (h : a = b) : Ending.returned (.bool a) = .returned (.bool b) := by rw [h]
theorem ret_int {a b : Int} (h : a = b) : Ending.returned (.int .i64 a) = .returned (.int .i64 b) := by rw [h]

/-- The slice value v reads as the list l: element k's cells are 'cells l[k]', sz of them; its block lies in [lo, hi). -/
def Rd {α : Type} (cells : α → List Value) (sz : Nat) (w : World) (lo hi : Nat) (v : Value) (l : List α) : Prop :=
  ∃ A c, v = .slice A l.length c ∧ l.length ≤ c ∧ c ≤ maxLen ∧ (0 < l.length → ∃ b off, A = some ⟨b, off, none⟩ ∧ lo ≤ b ∧ b < hi ∧
    ∀ k x, l[k]? = some x → ∀ j u, (cells x)[j]? = some u → w.cell? ⟨b, off + k * sz + j, none⟩ = some u)

/-- The same, and the cells lie in a block of element type E that nothing has frozen: they may be written. -/
def Ow {α : Type} (cells : α → List Value) (sz : Nat) (E : TypeId) (w : World) (lo hi : Nat) (v : Value) (l : List α) : Prop :=
  ∃ A c, v = .slice A l.length c ∧ l.length ≤ c ∧ c ≤ maxLen ∧ (0 < c → ∃ b off cur, A = some ⟨b, off, none⟩ ∧ lo ≤ b ∧ b < hi ∧ w.heap[b]? = some (.cells cur E (0, 0)) ∧ off + c * sz ≤ cur.size ∧
    ∀ k x, l[k]? = some x → ∀ j u, (cells x)[j]? = some u → cur[off + k * sz + j]? = some u)

/-- At most the block of v has turned, and that only if v has elements; new blocks may have come. -/
def Turned (w w' : World) (v : Value) (n : Nat) : Prop := ∃ row, w.grownBy w' row ∧ ∀ g, row = some g → 0 < n ∧ v.ownBlock = some g

section
variable {α : Type} {cells : α → List Value} {sz : Nat} {E : TypeId} {w w' : World} {lo hi lo' hi' : Nat} {v : Value} {l : List α}

theorem Rd.mono (h : Rd cells sz w lo hi v l) (h1 : lo' ≤ lo) (h2 : hi ≤ hi') : Rd cells sz w lo' hi' v l := by
  obtain ⟨A, c, hv, hc, hm, h⟩ := h
  refine ⟨A, c, hv, hc, hm, fun hn => ?_⟩
  obtain ⟨b, off, hA, hb1, hb2, h⟩ := h hn
  exact ⟨b, off, hA, by omega, by omega, h⟩
theorem Rd.keep (h : Rd cells sz w lo hi v l) (hk : ∀ b o, lo ≤ b → b < hi → w'.cell? ⟨b, o, none⟩ = w.cell? ⟨b, o, none⟩) : Rd cells sz w' lo hi v l := by
  obtain ⟨A, c, hv, hc, hm, h⟩ := h
  refine ⟨A, c, hv, hc, hm, fun hn => ?_⟩
  obtain ⟨b, off, hA, hb1, hb2, h⟩ := h hn
  exact ⟨b, off, hA, hb1, hb2, fun k x hx j u hu => (hk _ _ hb1 hb2).trans (h k x hx j u hu)⟩
theorem Rd.below {B : Nat} (h : Rd cells sz w lo hi v l) (hb : Below B w w') (hB : hi ≤ B) : Rd cells sz w' lo hi v l :=
  h.keep fun b o _ h2 => hb.cell (p := ⟨b, o, none⟩) (Nat.lt_of_lt_of_le h2 hB)
/-- only block g may have turned -/
theorem Rd.grown {row : Option Nat} (h : Rd cells sz w lo hi v l) (hg : w.grownBy w' row) (hB : hi ≤ w.heap.size) (hr : ∀ g, row = some g → g < lo ∨ hi ≤ g) : Rd cells sz w' lo hi v l :=
  h.keep fun b o h1 h2 => World.cell?_of_block (a := ⟨b, o, none⟩) (hg.block b (by omega) (fun e => by have := hr _ e.symm; omega))
theorem Rd.nil_ : Rd cells sz w lo hi (.slice none 0 0) [] := ⟨none, 0, rfl, Nat.le_refl _, Nat.zero_le _, fun h => absurd h (by simp)⟩

theorem Rd.empty {A : Option Addr} {c : Nat} (hc : c ≤ maxLen) : Rd cells sz w lo hi (.slice A 0 c) [] := ⟨A, c, rfl, Nat.zero_le _, hc, fun h => absurd h (by simp)⟩
theorem Ow.rd (h : Ow cells sz E w lo hi v l) : Rd cells sz w lo hi v l := by
  obtain ⟨A, c, hv, hc, hm, h⟩ := h
  refine ⟨A, c, hv, hc, hm, fun hn => ?_⟩
  obtain ⟨b, off, cur, hA, hb1, hb2, hh, _, h⟩ := h (by omega)
  refine ⟨b, off, hA, hb1, hb2, fun k x hx j u hu => ?_⟩
  rw [cell_of_row w b _ cur E (0, 0) hh]
  exact h k x hx j u hu
theorem Rd.form (h : Rd cells sz w lo hi v l) : ∃ A n c, v = .slice A n c ∧ Hid (n = l.length) ∧ n ≤ c ∧ c ≤ 9223372036854775807 := by
  obtain ⟨A, c, rfl, hc, hm, _⟩ := h
  exact ⟨A, _, c, rfl, rfl, hc, by unfold maxLen at hm; omega⟩
theorem Rd.get {A : Option Addr} {n c k : Nat} (h : Rd cells sz w lo hi (.slice A n c) l) (hk : k < n) {B : Nat} {wr : World} (hb : Below B w wr) (hB : hi ≤ B) :
    ∃ b off x, A = some ⟨b, off, none⟩ ∧ Hid (l[k]? = some x) ∧ lo ≤ b ∧ b < hi ∧ ∀ j u, (cells x)[j]? = some u → wr.cell? ⟨b, off + k * sz + j, none⟩ = some u := by
  obtain ⟨A', c', hv, hc, hm, h⟩ := h
  injection hv with e1 e2 e3
  subst e1; subst e2
  obtain ⟨b, off, hA, h1, h2, h3⟩ := h (by omega)
  have hx : l[k]? = some (l[k]'hk) := List.getElem?_eq_getElem _
  exact ⟨b, off, _, hA, hx, h1, h2, fun j u hu => (hb.cell (p := ⟨b, _, none⟩) (Nat.lt_of_lt_of_le h2 hB)).trans (h3 k _ hx j u hu)⟩
theorem Ow.form (h : Ow cells sz E w lo hi v l) : ∃ A n c, v = .slice A n c ∧ Hid (n = l.length) ∧ n ≤ c ∧ c ≤ 9223372036854775807 := h.rd.form
theorem Ow.mono (h : Ow cells sz E w lo hi v l) (h1 : lo' ≤ lo) (h2 : hi ≤ hi') : Ow cells sz E w lo' hi' v l := by
  obtain ⟨A, c, hv, hc, hm, h⟩ := h
  refine ⟨A, c, hv, hc, hm, fun hn => ?_⟩
  obtain ⟨b, off, cur, hA, hb1, hb2, hh, hz, h⟩ := h hn
  exact ⟨b, off, cur, hA, by omega, by omega, hh, hz, h⟩
theorem Ow.keep (h : Ow cells sz E w lo hi v l) (hk : ∀ b, lo ≤ b → b < hi → b < w.heap.size → w'.heap[b]? = w.heap[b]?) : Ow cells sz E w' lo hi v l := by
  obtain ⟨A, c, hv, hc, hm, h⟩ := h
  refine ⟨A, c, hv, hc, hm, fun hn => ?_⟩
  obtain ⟨b, off, cur, hA, hb1, hb2, hh, hz, h⟩ := h hn
  exact ⟨b, off, cur, hA, hb1, hb2, (hk b hb1 hb2 (Array.getElem?_eq_some_iff.1 hh).1).trans hh, hz, h⟩
theorem Ow.below {B : Nat} (h : Ow cells sz E w lo hi v l) (hb : Below B w w') (hB : hi ≤ B) : Ow cells sz E w' lo hi v l := h.keep fun b _ h2 _ => hb.block b (by omega)
theorem Ow.nil_ : Ow cells sz E w lo hi (.slice none 0 0) [] := ⟨none, 0, rfl, Nat.le_refl _, Nat.zero_le _, fun h => absurd h (by simp)⟩

section
variable {β : Type} {cells2 : β → List Value} {sz2 : Nat} {E2 : TypeId} {lo2 hi2 : Nat} {v2 : Value} {l2 : List β}
theorem Turned.size {n : Nat} (ht : Turned w w' v n) : w.heap.size ≤ w'.heap.size := by
  obtain ⟨row, hg, _⟩ := ht
  exact hg.size
theorem grown_trans {w1 : World} {row : Option Nat} (h : w.grownBy w1 row) (k : w1.grownBy w' row) : w.grownBy w' row :=
  ⟨k.os.trans h.os, k.tape.trans h.tape, k.output.trans h.output, Nat.le_trans h.size k.size, fun i hi hne => (k.block i (Nat.lt_of_lt_of_le hi h.size) hne).trans (h.block i hi hne)⟩
theorem Turned.refl (w : World) (v : Value) (n : Nat) : Turned w w v n := ⟨none, World.grownBy.refl w _, fun g e => by cases e⟩
end

theorem flat_get (hs : ∀ x, (cells x).length = sz) : ∀ (l : List α) (k : Nat) (x : α) (j : Nat) (u : Value), l[k]? = some x → (cells x)[j]? = some u → (l.flatMap cells)[k * sz + j]? = some u
  | [], k, x, j, u, h, _ => by simp at h
  | y :: l, 0, x, j, u, h, hu => by
    simp only [List.getElem?_cons_zero, Option.some.injEq] at h
    subst h
    obtain ⟨hj, _⟩ := List.getElem?_eq_some_iff.1 hu
    simp only [List.flatMap_cons, Nat.zero_mul, Nat.zero_add]
    rw [List.getElem?_append_left hj]; exact hu
  | y :: l, k + 1, x, j, u, h, hu => by
    simp only [List.getElem?_cons_succ] at h
    have ih := flat_get hs l k x j u h hu
    simp only [List.flatMap_cons]
    rw [List.getElem?_append_right (by rw [hs]; rw [Nat.succ_mul]; omega), hs, show (k + 1) * sz + j - sz = k * sz + j by rw [Nat.succ_mul]; omega]
    exact ih
theorem flat_len (hs : ∀ x, (cells x).length = sz) : ∀ l : List α, (l.flatMap cells).length = l.length * sz
  | [] => by simp
  | y :: l => by rw [List.flatMap_cons, List.length_append, hs, flat_len hs l, List.length_cons, Nat.succ_mul]; omega

/-- what append and make leave, as a list of elements -/
theorem Ow.of_own (hs : ∀ x, (cells x).length = sz) {n : Nat} {xs : List Value} (h : w.ownsRow lo E sz v n xs) (hx : xs = l.flatMap cells) (hn : n = l.length) : Ow cells sz E w lo w.heap.size v l := by
  subst hx; subst hn
  obtain ⟨h1, ⟨rfl, h0⟩ | ⟨g, cap, cur, rfl, hb, hh, hc, hm, hz, ht⟩⟩ := h
  · have : l = [] := List.eq_nil_of_length_eq_zero h0
    subst this; exact Ow.nil_
  · refine ⟨_, cap, rfl, hc, hm, fun _ => ⟨g, 0, cur, rfl, hb, (Array.getElem?_eq_some_iff.1 hh).1, hh, by omega, fun k x hx j u hu => ?_⟩⟩
    have hg := flat_get hs l k x j u hx hu
    rw [← ht, List.getElem?_take] at hg
    split at hg
    · rw [Nat.zero_add]; simpa using hg
    · cases hg
end

/-! ### A row of the call's own, filled element by element -/

/-- stores of one-cell values, one behind the other -/
def setL (w : World) (g off : Nat) : List Value → World
  | [] => w
  | v :: vs => setL (w.setCell ⟨g, off, none⟩ v) g (off + 1) vs

theorem setL_size : ∀ (vs : List Value) (w : World) (g off : Nat), (setL w g off vs).heap.size = w.heap.size
  | [], _, _, _ => rfl
  | v :: vs, w, g, off => by unfold setL; rw [setL_size vs]; simp [World.setCell]
theorem setL_other : ∀ (vs : List Value) (w : World) (g off k : Nat), k ≠ g → (setL w g off vs).heap[k]? = w.heap[k]?
  | [], _, _, _, _, _ => rfl
  | v :: vs, w, g, off, k, h => by unfold setL; rw [setL_other vs _ _ _ _ h]; exact Below.heap_setCell _ _ _ _ h
theorem setL_frame : ∀ (vs : List Value) (w : World) (g off : Nat), (setL w g off vs).os = w.os ∧ (setL w g off vs).tape = w.tape ∧ (setL w g off vs).output = w.output
  | [], _, _, _ => ⟨rfl, rfl, rfl⟩
  | v :: vs, w, g, off => by unfold setL; exact setL_frame vs _ _ _
theorem setL_grown (vs : List Value) (w : World) (g off : Nat) : w.grownBy (setL w g off vs) (some g) :=
  ⟨(setL_frame vs w g off).1, (setL_frame vs w g off).2.1, (setL_frame vs w g off).2.2, Nat.le_of_eq (setL_size vs w g off).symm, fun k _ hk => setL_other vs w g off k (fun e => hk (by rw [e]))⟩
theorem setL_below {B : Nat} {a w : World} (h : Below B a w) (vs : List Value) (g off : Nat) (hg : B ≤ g) : Below B a (setL w g off vs) :=
  h.trans ⟨(setL_frame vs w g off).1, (setL_frame vs w g off).2.1, (setL_frame vs w g off).2.2, Nat.le_of_eq (setL_size vs w g off).symm, fun k hk => setL_other vs w g off k (by omega)⟩
theorem setL_row (E : TypeId) : ∀ (vs : List Value) (w : World) (g off : Nat) (cur : Array Value), w.heap[g]? = some (.cells cur E (0, 0)) → off + vs.length ≤ cur.size →
    ∃ cur', (setL w g off vs).heap[g]? = some (.cells cur' E (0, 0)) ∧ cur'.size = cur.size ∧ (∀ j u, vs[j]? = some u → cur'[off + j]? = some u) ∧ ∀ j, j < off ∨ off + vs.length ≤ j → cur'[j]? = cur[j]?
  | [], w, g, off, cur, h, _ => ⟨cur, h, rfl, fun j u hu => by simp at hu, fun _ _ => rfl⟩
  | v :: vs, w, g, off, cur, h, hl => by
    simp only [List.length_cons] at hl
    have h1 : (w.setCell ⟨g, off, none⟩ v).heap[g]? = some (.cells (cur.setIfInBounds off v) E (0, 0)) := by simp [World.setCell, Array.getElem?_modify, h]
    obtain ⟨cur', e1, e2, e3, e4⟩ := setL_row E vs _ g (off + 1) _ h1 (by simp; omega)
    refine ⟨cur', e1, by simpa using e2, fun j u hu => ?_, fun j hj => ?_⟩
    · cases j with
      | zero =>
        simp only [List.getElem?_cons_zero, Option.some.injEq] at hu
        subst hu
        rw [Nat.add_zero, e4 off (by omega), Array.getElem?_setIfInBounds, if_pos rfl, if_pos (by omega)]
      | succ j =>
        simp only [List.getElem?_cons_succ] at hu
        have := e3 j u hu
        rwa [show off + (j + 1) = off + 1 + j by omega]
    · simp only [List.length_cons] at hj
      rw [e4 j (by omega), Array.getElem?_setIfInBounds, if_neg (by omega)]

/-- the first l.length elements of the row of n at (g, off) are l; nothing of the block is frozen -/
def Part {α : Type} (cells : α → List Value) (sz : Nat) (E : TypeId) (w : World) (g off n : Nat) (l : List α) : Prop :=
  ∃ cur : Array Value, w.heap[g]? = some (.cells cur E (0, 0)) ∧ off + n * sz ≤ cur.size ∧ ∀ k x, l[k]? = some x → ∀ j u, (cells x)[j]? = some u → cur[off + k * sz + j]? = some u

section
variable {α : Type} {cells : α → List Value} {sz : Nat} {E : TypeId} {w w' : World} {g off n : Nat} {l : List α}
theorem Part.block (h : Part cells sz E w g off n l) (hb : w'.heap[g]? = w.heap[g]?) : Part cells sz E w' g off n l := by
  obtain ⟨cur, h1, h2⟩ := h
  exact ⟨cur, hb.trans h1, h2⟩
theorem Part.lt (h : Part cells sz E w g off n l) : g < w.heap.size := by
  obtain ⟨cur, h1, h2⟩ := h
  exact (Array.getElem?_eq_some_iff.1 h1).1
theorem Part.below (h : Part cells sz E w g off n l) (hb : Below w.heap.size w w') : Part cells sz E w' g off n l := h.block (hb.block g h.lt)
theorem Part.frozen (h : Part cells sz E w g off n l) (o : Nat) : w.frozen? ⟨g, o, none⟩ = false := by
  obtain ⟨cur, h1, h2⟩ := h
  exact frozen_of_row w g o cur E h1
theorem Part.cell (h : Part cells sz E w g off n l) {i j : Nat} (hi : i < n) (hj : j < sz) : ∃ u, w.cell? ⟨g, off + i * sz + j, none⟩ = some u := by
  obtain ⟨cur, h1, h2, _⟩ := h
  have h3 : (i + 1) * sz ≤ n * sz := Nat.mul_le_mul_right _ hi
  rw [Nat.succ_mul] at h3
  rw [cell_of_row w g _ cur E (0, 0) h1]
  exact ⟨_, Array.getElem?_eq_getElem (by omega)⟩
theorem Part.set (h : Part cells sz E w g off n l) (hl : l.length < n) (x : α) (vs : List Value) (hx : cells x = vs) (hvs : vs.length = sz) (hs : ∀ y, (cells y).length = sz) {p : Nat} (hp : p = off + l.length * sz) :
    Part cells sz E (setL w g p vs) g off n (l ++ [x]) := by
  subst hp
  obtain ⟨cur, h1, h2, h3⟩ := h
  have h4 : (l.length + 1) * sz ≤ n * sz := Nat.mul_le_mul_right _ hl
  rw [Nat.succ_mul] at h4
  obtain ⟨cur', e1, e2, e3, e4⟩ := setL_row E vs w g (off + l.length * sz) cur h1 (by omega)
  refine ⟨cur', e1, by omega, fun k y hy j u hu => ?_⟩
  have hj : j < sz := by rw [← hs y]; exact (List.getElem?_eq_some_iff.1 hu).1
  by_cases hk : k < l.length
  · rw [List.getElem?_append_left hk] at hy
    have h5 : (k + 1) * sz ≤ l.length * sz := Nat.mul_le_mul_right _ hk
    rw [Nat.succ_mul] at h5
    rw [e4 _ (by omega)]
    exact h3 k y hy j u hu
  · have hk2 : k = l.length := by
      have := (List.getElem?_eq_some_iff.1 hy).1
      simp at this; omega
    subst hk2
    simp at hy
    subst hy
    rw [hx] at hu
    exact e3 j u hu
end

/-! ### append onto a row of the call's own -/
theorem flat_inv {α : Type} {cells : α → List Value} {sz : Nat} (hs : ∀ x, (cells x).length = sz) : ∀ (l : List α) (j : Nat) (u : Value), (l.flatMap cells)[j]? = some u → ∃ k x i, l[k]? = some x ∧ (cells x)[i]? = some u ∧ j = k * sz + i
  | [], j, u, h => by simp at h
  | y :: l, j, u, h => by
    simp only [List.flatMap_cons] at h
    by_cases hj : j < sz
    · rw [List.getElem?_append_left (by rw [hs]; exact hj)] at h
      exact ⟨0, y, j, by simp, h, by omega⟩
    · rw [List.getElem?_append_right (by rw [hs]; omega), hs] at h
      obtain ⟨k, x, i, h1, h2, h3⟩ := flat_inv hs l (j - sz) u h
      exact ⟨k + 1, x, i, by simpa using h1, h2, by rw [Nat.succ_mul]; omega⟩

theorem run_app_rd {α : Type} {cells : α → List Value} {P : Program} (w : World) (base : Nat) (t ty e : TypeId) (i : TypeInfo) (z : Value) (sz bytes : Nat) (ht : P.underlying t = some (.slice e)) (hi : P.info? e = some i) (hz : i.zero = some z)
    (hsize : i.size = sz) (hby : i.bytes = bytes) (hzs : z.cells.size = sz) (hsz : 0 < sz) (hcl : ∀ x, (cells x).length = sz) (h1 : ∀ y u, u ∈ cells y → u.oneCell' = true)
    (v : Value) (n : Nat) (xs : List Value) (hown : w.ownsRow base e sz v n xs) {lo hi' m c : Nat} {A : Option Addr} {l : List α} (hr : Rd cells sz w lo hi' (.slice A m c) l)
    (h63 : n + m ≤ maxLen) (hbytes : (n + m) * bytes ≤ 140737488355328) (hbase : base ≤ w.heap.size) :
    ∃ v' w', (Builtin.append_ #[t, t] ty #[v, .slice A m c]).run P w = .ok v' w' ∧ w'.ownsRow base e sz v' (n + m) (xs ++ l.flatMap cells) ∧ w.grownBy w' v.ownBlock := by
  obtain ⟨A', c', hv, hc, hm, hcell⟩ := hr
  injection hv with e1 e2 e3
  subst e1; subst e2; subst e3
  rcases A with _ | ad
  · have hl : l = [] := by
      rcases Nat.eq_zero_or_pos l.length with h0 | h0
      · exact List.eq_nil_of_length_eq_zero h0
      · obtain ⟨b, off, hA, _⟩ := hcell h0
        cases hA
    subst hl
    refine ⟨v, w, ?_, by simpa using hown, World.grownBy.refl w _⟩
    rcases hown.2 with ⟨rfl, rfl⟩ | ⟨g, cap, cur, rfl, _, _, hnc, _⟩
    · simp [Builtin.append_, run_underlying ht, sizeOf, typeInfo, hi, Builtin.lenOf, Builtin.firstCells]
    · simp [Builtin.append_, run_underlying ht, sizeOf, typeInfo, hi, Builtin.lenOf, Builtin.firstCells, hnc, storeCells]
  · have hnews : ∀ j u, (l.flatMap cells)[j]? = some u → w.cell? (ad.add j) = some u := by
      intro j u hu
      obtain ⟨k, x, i', hk, hx, rfl⟩ := flat_inv hcl l j u hu
      have hlt := (List.getElem?_eq_some_iff.1 hk).1
      obtain ⟨b, off, hA, _, _, h⟩ := hcell (by omega)
      injection hA with hA
      subst hA
      rw [Go.WideShapes.add_plain, ← Nat.add_assoc]
      exact h k x hk i' u hx
    obtain ⟨v', w', hrun, h2, h3, _⟩ := run_append_own_at (P := P) w base t ty e i z sz bytes ht hi hz hsize hby hzs hsz v n xs hown ad l.length c (l.flatMap cells) (flat_len hcl l) hnews
      (fun u hu => by obtain ⟨y, _, hy⟩ := List.mem_flatMap.1 hu; exact h1 y u hy) h63 hbytes hbase
    exact ⟨v', w', hrun, h2, h3⟩

theorem wp_app_rd {α : Type} {cells : α → List Value} {P : Program} {w : World} {ops : Array Oper} {rest : List Oper} {o : Oper} {a : Act} {Q : Exit → Act → World → Prop} (hgd : o.guard = none) (s x : Operand) (t : TypeId)
    (ho : o.op = .call { callee := .builtin .append, args := #[s, x], argTypes := #[t, t] })
    (base : Nat) (e : TypeId) (i : TypeInfo) (z : Value) (sz bytes : Nat) (ht : P.underlying t = some (.slice e)) (hi : P.info? e = some i) (hz : i.zero = some z)
    (hsize : i.size = sz) (hby : i.bytes = bytes) (hzs : z.cells.size = sz) (hsz : 0 < sz) (hcl : ∀ x, (cells x).length = sz) (h1 : ∀ y u, u ∈ cells y → u.oneCell' = true)
    (v : Value) (n : Nat) (xs : List Value) (hs : a.eval s = v) (hown : w.ownsRow base e sz v n xs) {lo hi' m c : Nat} {A : Option Addr} {l : List α} (hx : a.eval x = .slice A m c) (hr : Rd cells sz w lo hi' (.slice A m c) l)
    (h63 : n + m ≤ maxLen) (hbytes : (n + m) * bytes ≤ 140737488355328) (hbase : base ≤ w.heap.size)
    (h : ∀ v' w', w'.ownsRow base e sz v' (n + m) (xs ++ l.flatMap cells) → w.grownBy w' v.ownBlock → wpList P ops Q rest (a.put o.dst v') w') : wpList P ops Q (o :: rest) a w := by
  refine wpList_plain hgd fun K hK => ?_
  obtain ⟨v', w', hrun, h2, h3⟩ := run_app_rd (P := P) w base t o.type e i z sz bytes ht hi hz hsize hby hzs hsz hcl h1 v n xs hown hr h63 hbytes hbase
  unfold Oper.wp execOp
  simp only [ho, resolve, invoke, builtin, Sem.run_bind, Sem.run_pure, Result.andThen_ok, List.map_toArray, List.map_cons, List.map_nil, hs, hx, hrun]
  exact hK _ _ (h v' w' h2 h3)

/-! ### A closure that changes one element in place -/
/-- the sz cells at (b, o), which held xs, hold ys; the block is else as it was; no other old block has turned -/
def Upd (E : TypeId) (sz : Nat) (w w' : World) (b o : Nat) (xs ys : List Value) : Prop :=
  w.grownBy w' (some b) ∧ ∀ cur : Array Value, w.heap[b]? = some (.cells cur E (0, 0)) → o + sz ≤ cur.size → (∀ j u, xs[j]? = some u → cur[o + j]? = some u) →
    ∃ cur' : Array Value, w'.heap[b]? = some (.cells cur' E (0, 0)) ∧ cur'.size = cur.size ∧ (∀ j u, ys[j]? = some u → cur'[o + j]? = some u) ∧ ∀ j, j < o ∨ o + sz ≤ j → cur'[j]? = cur[j]?

theorem Upd.drew {E : TypeId} {sz : Nat} {w w' : World} {b o : Nat} {xs ys : List Value} (h : Upd E sz w w' b o xs ys) : Upd E sz w w'.drew b o xs ys :=
  ⟨⟨h.1.os, h.1.tape, h.1.output, h.1.size, h.1.block⟩, h.2⟩
theorem Upd.of_setL {E : TypeId} {sz : Nat} {w : World} {b o : Nat} {xs ys ys' : List Value} (s : Nat) (hx : xs.length = sz) (he : ys' = xs.take s ++ (ys ++ xs.drop (s + ys.length))) (hle : s + ys.length ≤ sz) : Upd E sz w (setL w b (o + s) ys) b o xs ys' := by
  refine ⟨setL_grown ys w b (o + s), fun cur hh hsz hc => ?_⟩
  obtain ⟨cur', e1, e2, e3, e4⟩ := setL_row E ys w b (o + s) cur hh (by omega)
  refine ⟨cur', e1, e2, fun j u hu => ?_, fun j hj => e4 j (by omega)⟩
  have htl : (xs.take s).length = s := by rw [List.length_take]; omega
  subst he
  by_cases h1 : j < s
  · rw [List.getElem?_append_left (by omega), List.getElem?_take, if_pos h1] at hu
    rw [e4 _ (by omega)]
    exact hc j u hu
  · rw [List.getElem?_append_right (by omega), htl] at hu
    by_cases h2 : j - s < ys.length
    · rw [List.getElem?_append_left h2] at hu
      have := e3 _ u hu
      rwa [show o + s + (j - s) = o + j by omega] at this
    · rw [List.getElem?_append_right (by omega), List.getElem?_drop, show s + ys.length + (j - s - ys.length) = j by omega] at hu
      rw [e4 _ (by omega)]
      exact hc j u hu

theorem Ow.upd {α : Type} {cells : α → List Value} {sz : Nat} {E : TypeId} {w w' : World} {lo hi b off n c i : Nat} {l : List α} {t t' : α} (hs : ∀ y, (cells y).length = sz) (hsz0 : 0 < sz) (h : Ow cells sz E w lo hi (.slice (some ⟨b, off, none⟩) n c) l)
    (hi' : l[i]? = some t) (hu : Upd E sz w w' b (off + i * sz) (cells t) (cells t')) : Ow cells sz E w' lo hi (.slice (some ⟨b, off, none⟩) n c) (l.set i t') := by
  obtain ⟨A, c', hv, hc, hm, h⟩ := h
  injection hv with e1 e2 e3
  subst e1; subst e2; subst e3
  refine ⟨_, c, by rw [List.length_set], by rw [List.length_set]; exact hc, hm, fun hn => ?_⟩
  obtain ⟨b', off', cur, hA, hb1, hb2, hh, hzz, hx⟩ := h hn
  injection hA with hA
  injection hA with e1 e2
  subst e1; subst e2
  obtain ⟨hlt, _⟩ := List.getElem?_eq_some_iff.1 hi'
  have hsz : off + i * sz + sz ≤ cur.size := by
    have hj : (cells t)[sz - 1]? = some ((cells t)[sz - 1]'(by rw [hs]; omega)) := List.getElem?_eq_getElem _
    have := (Array.getElem?_eq_some_iff.1 (hx i t hi' (sz - 1) _ hj)).1
    omega
  obtain ⟨cur', e1, e2, e3, e4⟩ := hu.2 cur hh hsz (fun j u hu => hx i t hi' j u hu)
  refine ⟨b, off, cur', rfl, hb1, hb2, e1, by omega, fun k x hk j u hu => ?_⟩
  have hj : j < sz := by rw [← hs x]; exact (List.getElem?_eq_some_iff.1 hu).1
  rw [List.getElem?_set] at hk
  split at hk
  · rename_i e
    subst e
    injection hk with hk
    subst hk
    exact e3 j u hu
  · rename_i hne
    rw [e4 _ (by
      rcases Nat.lt_or_ge k i with hki | hki
      · have : (k + 1) * sz ≤ i * sz := Nat.mul_le_mul_right _ hki
        rw [Nat.succ_mul] at this
        omega
      · have : (i + 1) * sz ≤ k * sz := Nat.mul_le_mul_right _ (by omega)
        rw [Nat.succ_mul] at this
        omega)]
    exact hx k x hk j u hu

/-! ### Arguments opened: a slice of structs of one-cell fields, a slice of one-cell elements -/
section
variable {H : Type} {enc : TypeId × Value → H} {P : Program} {w : World} {base : Nat} {spare : Nat → Bool} {held : Bool}
theorem rd_of_cells {α : Type} [Inhabited α] {cells : α → List Value} {sz : Nat} (hsz : 0 < sz) (hlen : ∀ x, (cells x).length = sz) {a : Addr} {len cap : Nat} (hl : len ≤ cap) (hm : cap ≤ maxLen)
    (h : ∀ i, i < len → ∃ x : α, ∀ j u, (cells x)[j]? = some u → w.cell? (a.add (i * sz + j)) = some u) : ∃ l : List α, Rd cells sz w 0 w.heap.size (.slice (some a) len cap) l := by
  obtain ⟨f, hf⟩ := choose_lt h
  refine ⟨(List.range len).map f, some a, cap, by simp, by simpa using hl, hm, fun hn => ?_⟩
  have hn' : 0 < len := by simpa using hn
  obtain ⟨b, off, spot⟩ := a
  have h0 : ∀ j u, (cells (f 0))[j]? = some u → w.cell? ((⟨b, off, spot⟩ : Addr).add (0 * sz + j)) = some u := hf 0 hn'
  have hc0 : (cells (f 0))[0]? = some ((cells (f 0))[0]'(by rw [hlen]; exact hsz)) := List.getElem?_eq_getElem _
  have h00 := h0 0 _ hc0
  have hspot : spot = none := by simpa [Addr.add] using World.cell?_spot h00
  subst hspot
  refine ⟨b, off, rfl, Nat.zero_le _, by simpa [Addr.add] using World.block_lt_of_cell? w _ h00, fun k x hx j u hu => ?_⟩
  simp only [List.getElem?_map, Option.map_eq_some_iff] at hx
  obtain ⟨i, hi, rfl⟩ := hx
  obtain ⟨hlt, hi'⟩ := List.getElem?_eq_some_iff.1 hi
  simp only [List.getElem_range] at hi'
  subst hi'
  have := hf k (by simpa using hlt) j u hu
  rwa [Go.WideShapes.add_plain, ← Nat.add_assoc] at this

theorem open_rd1 {α : Type} [Inhabited α] {c : α → Value} {t e : TypeId} {v : Value} {d : DataW H} {p : List MemPlace} {r : Reach} {b0 : Nat} (ht : P.underlying t = some (.slice e)) (hC : P.cellsOf e = 1)
    (helem : ∀ (cs : List Value) (n : Nat) (y : DataW H × List MemPlace), DataW.trod enc P w base spare held n e cs = some y → ∃ x : α, cs = [c x])
    (hv : Value.okWide P w r b0 t v) (h : DataW.Trod enc P w base spare held t v d p) : ∃ l : List α, Rd (fun x => [c x]) 1 w 0 w.heap.size v l := by
  obtain ⟨a0, len0, cap0, rfl⟩ := okWide_slice ht hv
  obtain ⟨fuel, hf⟩ := h
  rcases open_slice ht (by simpa [Value.cells] using hf) with ⟨h0, _⟩ | ⟨a, len, cap, m, n, D, Pl, hcs, _, hl, hm, hmm, _, hi⟩
  · simp only [List.cons.injEq, and_true] at h0
    rw [h0]
    exact ⟨[], Rd.nil_⟩
  · simp only [List.cons.injEq, and_true] at hcs
    rw [hcs]
    refine rd_of_cells Nat.one_pos (fun _ => rfl) hl hm fun i hil => ?_
    obtain ⟨cs', hc, ht'⟩ := hi i (by rw [hmm]; split <;> omega)
    rw [hC] at hc
    obtain ⟨x, rfl⟩ := helem cs' _ _ ht'
    obtain ⟨_, hcl, hat⟩ := World.cells?_some hc
    refine ⟨x, fun j u hu => ?_⟩
    have hj : j < 1 := (List.getElem?_eq_some_iff.1 hu).1
    rw [← Go.Deep.add_add, hat j hj]; exact hu
end

/-- the place of the first element that is chosen, -1 if there is none -/
def findIx {α : Type} (p : α → Bool) (l : List α) : Int := if l.any p then l.findIdx p else -1

theorem findIx_hit {α : Type} {p : α → Bool} {l : List α} {k : Nat} {x : α} (h1 : (l.take k).any p = false) (h2 : l[k]? = some x) (h3 : p x = true) : findIx p l = k := by
  have ha : l.any p = true := List.any_eq_true.2 ⟨x, List.mem_of_getElem? h2, h3⟩
  obtain ⟨hk, hx⟩ := List.getElem?_eq_some_iff.1 h2
  have hf : l.findIdx p = k := by
    rw [List.findIdx_eq hk]
    refine ⟨by rw [hx]; exact h3, fun j hj => ?_⟩
    have h4 := List.any_eq_false.1 h1 (l[j]'(by omega)) (by
      rw [List.mem_take_iff_getElem]
      exact ⟨j, by omega, rfl⟩)
    simpa using h4
  simp [findIx, ha, hf]
theorem findIx_nonneg {α : Type} (p : α → Bool) (l : List α) : decide (0 ≤ findIx p l) = l.any p := by
  unfold findIx
  cases l.any p <;> simp
theorem findIx_spec {α : Type} {p : α → Bool} {l : List α} (h : l.any p = true) : ∃ k x, findIx p l = (k : Nat) ∧ k < l.length ∧ l[k]? = some x ∧ p x = true ∧ (l.take k).any p = false := by
  have hlt : l.findIdx p < l.length := List.findIdx_lt_length.2 (List.any_eq_true.1 h)
  refine ⟨l.findIdx p, l[l.findIdx p], by simp [findIx, h], hlt, List.getElem?_eq_getElem _, List.findIdx_getElem, ?_⟩
  rw [List.any_eq_false]
  intro y hy
  rw [List.mem_take_iff_getElem] at hy
  obtain ⟨j, hj, rfl⟩ := hy
  exact fun hq => by
    have := List.not_of_lt_findIdx (p := p) (xs := l) (i := j) (by omega)
    simp [this] at hq
theorem enters {P : Program} {f : FuncId} {fn : Func} {c : Code} (hf : P.funcs[f]? = some fn) (hname : (fn.name == "runtime.NumGoroutine") = false) (hb : fn.body = some c) : ∀ args w, (callFunc f args).run P w = .ok (.enter f args) w := by
  intro args w
  have h1 : fn.name ≠ "runtime.NumGoroutine" := by simpa using hname
  simp [callFunc, hf, h1, hb, mark]

/-! ### Facts on the program -/
theorem own : ownKnob Tryz.prog.godebug = none := by kernel_rfl
theorem laidOut : laidOutB Tryz.prog = true := by kernel_rfl

/-! ### The frame of a law: from a contract 'returns true, and nothing that was there has turned' to the given form -/

theorem trodAll_below {H : Type} {enc : TypeId × Value → H} {P : Program} (hl : laidOutB P = true) {W W' : World} (hb : Below W.heap.size W W') :
    ∀ (ts : List TypeId) (vs : List Value) (ds : List (DataW H)) (ps : List MemPlace), ts.all (fun t => P.readableRec t && decide (t < P.types.size)) = true →
      DataW.TrodAll enc P W 0 (fun _ => true) true ts vs ds ps → (∀ x ∈ ps, x.block < W.heap.size) → DataW.TrodAll enc P W' 0 (fun b => decide (b < W.heap.size)) true ts vs ds ps
  | [], vs, ds, ps, _, h, _ => by
    obtain ⟨rfl, rfl, rfl⟩ := trodAll_nil h
    exact trodAll_mk0
  | t :: ts, vs, ds, ps, hr, h, hp => by
    simp only [List.all_cons, Bool.and_eq_true, decide_eq_true_eq] at hr
    obtain ⟨v, vs', d, ds', p, q, rfl, rfl, rfl, hd, hrest⟩ := trodAll_cons h
    exact trodAll_cons_mk (Below.trod hl hr.1.1 hr.1.2 hd hb (fun x hx => hp x (by simp [hx]))) (trodAll_below hl hb ts vs' ds' q (by simpa using hr.2) hrest (fun x hx => hp x (by simp [hx])))

end Go.Proofs.YtaggjadgbmmjoaaGreatDoor

/- More plain lemmas about memory. No condition. -/
namespace Go.Proofs.YtaggjadgbmmjoaaGreatDoor
open Go.RowKit Go.ChangeShapes Go.WideShapes Go.Deep

section
variable {α : Type} {cells : α → List Value} {sz : Nat} {E : TypeId} {w : World} {lo hi : Nat} {v : Value} {l : List α}
theorem Rd.drew (h : Rd cells sz w lo hi v l) : Rd cells sz w.drew lo hi v l := h.keep fun _ _ _ _ => rfl
theorem Rd.drewN (h : Rd cells sz w lo hi v l) (n : Nat) : Rd cells sz (w.drewN n) lo hi v l := h.keep fun _ _ _ _ => rfl
theorem Ow.drew (h : Ow cells sz E w lo hi v l) : Ow cells sz E w.drew lo hi v l := h.keep fun _ _ _ _ => rfl
theorem Ow.drewN (h : Ow cells sz E w lo hi v l) (n : Nat) : Ow cells sz E (w.drewN n) lo hi v l := h.keep fun _ _ _ _ => rfl
end
theorem cell_new (w : World) (cs : Array Value) (E : TypeId) {g : Nat} (hg : g = w.heap.size) {j : Nat} {u : Value} (h : cs[j]? = some u) : (w.alloc (.cells cs E)).cell? ⟨g, j, none⟩ = some u := by
  subst hg
  rw [cell_of_row _ _ j cs E (0, 0) (heap_alloc_new w _)]
  exact h
theorem own_empty (w : World) {base : Nat} (E : TypeId) (sz : Nat) (hb : base ≤ w.heap.size) : (w.alloc (.cells #[] E)).ownsRow base E sz (.slice (some ⟨w.heap.size, 0, none⟩) 0 0) 0 [] :=
  World.ownsRow_lit w #[] 0 hb (by decide) (by simp)

theorem Ow.frozen {α : Type} {cells : α → List Value} {sz : Nat} {E : TypeId} {w : World} {lo hi b off n c : Nat} {l : List α} (h : Ow cells sz E w lo hi (.slice (some ⟨b, off, none⟩) n c) l) (hn : 0 < n) : ∀ j, w.frozen? ⟨b, j, none⟩ = false := by
  obtain ⟨A, c', hv, hnc, _, h⟩ := h
  injection hv with e1 e2 e3
  subst e1; subst e2
  obtain ⟨b', off', cur, hA, _, _, hh, _⟩ := h (by omega)
  injection hA with hA
  injection hA with e1 e2
  subst e1; subst e2
  exact fun j => frozen_of_row w b j cur E hh

section
variable {α : Type} {cells : α → List Value} {sz : Nat} {E E2 : TypeId} {w w' : World} {lo hi base sz2 n2 : Nat} {v v2 : Value} {l : List α} {xs : List Value}
/-- a row of another element type has grown: this one reads as it did -/
theorem Ow.grown_own (h : Ow cells sz E w lo hi v l) (hr : w.ownsRow base E2 sz2 v2 n2 xs) (hg : w.grownBy w' v2.ownBlock) (hE : E ≠ E2) : Ow cells sz E w' lo hi v l := by
  obtain ⟨A, c, hv, hc, hm, h⟩ := h
  refine ⟨A, c, hv, hc, hm, fun hn => ?_⟩
  obtain ⟨b, off, cur, hA, hb1, hb2, hh, hz, hx⟩ := h hn
  refine ⟨b, off, cur, hA, hb1, hb2, (hg.block b (Array.getElem?_eq_some_iff.1 hh).1 (fun e => ?_)).trans hh, hz, hx⟩
  rcases hr.2 with ⟨rfl, _⟩ | ⟨g, cap, cur2, rfl, _, hh2, _⟩
  · simp [Value.ownBlock] at e
  · simp [Value.ownBlock] at e
    subst e
    rw [hh] at hh2
    injection hh2 with hh2
    injection hh2 with _ h4
    exact hE h4
end

end Go.Proofs.YtaggjadgbmmjoaaGreatDoor

/- Reslices of rows that read as lists. No condition. -/
namespace Go.Proofs.YtaggjadgbmmjoaaGreatDoor
open Go.RowKit Go.ChangeShapes Go.WideShapes Go.Deep

section
variable {α : Type} {cells : α → List Value} {w : World} {lo hi n c : Nat} {A : Option Addr} {l : List α}
theorem Rd.take_ {sz : Nat} (h : Rd cells sz w lo hi (.slice A n c) l) {k : Nat} (hk : k ≤ n) : Rd cells sz w lo hi (.slice A k c) (l.take k) := by
  obtain ⟨A', c', hv, h1, h2, h3⟩ := h
  injection hv with e1 e2 e3
  subst e1; subst e2; subst e3
  have hl : (l.take k).length = k := by rw [List.length_take]; omega
  refine ⟨A, c, by rw [hl], by omega, h2, fun hn => ?_⟩
  obtain ⟨b, off, hA, hb1, hb2, hx⟩ := h3 (by omega)
  refine ⟨b, off, hA, hb1, hb2, fun i x hi => hx i x ?_⟩
  rw [List.getElem?_take] at hi
  split at hi
  · exact hi
  · cases hi
end

theorem own_empty_at (w : World) {base g : Nat} (E : TypeId) (sz : Nat) (hg : g = w.heap.size) (hb : base ≤ w.heap.size) : (w.alloc (.cells #[] E)).ownsRow base E sz (.slice (some ⟨g, 0, none⟩) 0 0) 0 [] := by
  subst hg; exact own_empty w E sz hb
end Go.Proofs.YtaggjadgbmmjoaaGreatDoor

/- Boxes of the call's own memory: a block whose cells are all known. No condition. -/
namespace Go.Proofs.YtaggjadgbmmjoaaGreatDoor
open Go.RowKit Go.ChangeShapes Go.WideShapes Go.Deep

/-- block g holds the cells cs, of type E, and nobody has frozen it -/
def Box (w : World) (g : Nat) (E : TypeId) (cs : List Value) : Prop := w.heap[g]? = some (.cells cs.toArray E (0, 0))
section
variable {w w' : World} {g b lo hi : Nat} {E E2 : TypeId} {cs : List Value}
theorem Box.lt (h : Box w g E cs) : g < w.heap.size := (Array.getElem?_eq_some_iff.1 h).1
theorem Box.cell (h : Box w g E cs) {j : Nat} {u : Value} (hu : cs[j]? = some u) : w.cell? ⟨g, j, none⟩ = some u := by
  rw [cell_of_row w g j _ E (0, 0) h]; simpa using hu
theorem Box.frozen (h : Box w g E cs) (j : Nat) : w.frozen? ⟨g, j, none⟩ = false := frozen_of_row w g j _ E h
theorem Box.keep (h : Box w g E cs) (hk : w'.heap[g]? = w.heap[g]?) : Box w' g E cs := hk.trans h
theorem Box.below {B : Nat} (h : Box w g E cs) (hb : Below B w w') (hB : g < B) : Box w' g E cs := h.keep (hb.block g hB)
theorem Box.drew (h : Box w g E cs) : Box w.drew g E cs := h
theorem Box.drewN (h : Box w g E cs) (n : Nat) : Box (w.drewN n) g E cs := h
theorem Box.new (w : World) (cs : Array Value) (E : TypeId) (hg : g = w.heap.size) : Box (w.alloc (.cells cs E)) g E cs.toList := by
  subst hg; unfold Box; rw [heap_alloc_new]
theorem Box.other (h : Box w g E cs) (hne : g ≠ b) (off : Nat) (vs : List Value) : Box (setL w b off vs) g E cs := h.keep (setL_other vs w b off g hne)
theorem Box.set1 (h : Box w g E cs) {j : Nat} (v : Value) (hj : j < cs.length) : Box (setL w g j [v]) g E (cs.set j v) := by
  obtain ⟨cur', e1, e2, e3, e4⟩ := setL_row E [v] w g j cs.toArray h (by simp; omega)
  have : cur' = (cs.set j v).toArray := by
    apply Array.ext_getElem?
    intro i
    by_cases hi : i = j
    · subst hi
      have h1 := e3 0 v rfl
      rw [Nat.add_zero] at h1
      rw [h1]; simp [hj]
    · have h2 := e4 i (by simp; omega)
      rw [h2]
      simp only [List.getElem?_toArray, List.getElem?_set, if_neg (Ne.symm hi)]
  rw [this] at e1
  exact e1
/-- a box is kept where a row of another element type is written -/
theorem Box.row {α : Type} {cells : α → List Value} {sz off n c : Nat} {l : List α} (h : Box w g E2 cs) (ho : Ow cells sz E w lo hi (.slice (some ⟨b, off, none⟩) n c) l) (hn : 0 < n) (hne : E ≠ E2) (o : Nat) (vs : List Value) : Box (setL w b o vs) g E2 cs := by
  refine h.other (fun e => ?_) o vs
  obtain ⟨A, c', hv, hnc, _, hx⟩ := ho
  injection hv with e1 e2 e3
  subst e1; subst e2
  obtain ⟨b', off', cur, hA, _, _, hh, _⟩ := hx (by omega)
  injection hA with hA
  injection hA with e4 e5
  subst e4; subst e
  unfold Box at h
  rw [hh] at h
  injection h with h
  injection h with _ h4
  exact hne h4
/-- an own row is kept where only new blocks have come -/
theorem own_below {base sz n : Nat} {v : Value} {xs : List Value} (h : w.ownsRow base E sz v n xs) (hb : Below w.heap.size w w') : w'.ownsRow base E sz v n xs :=
  h.kept (World.grownBy.mk hb.os hb.tape hb.output hb.size (fun k hk _ => hb.block k hk) : w.grownBy w' none) (by cases hv : v.ownBlock <;> simp)
theorem own_box_ne {base sz n : Nat} {v : Value} {xs : List Value} (h : w.ownsRow base E sz v n xs) (hb : Box w g E2 cs) (hne : E ≠ E2) : v.ownBlock ≠ some g := by
  intro e
  rcases h.2 with ⟨rfl, _⟩ | ⟨g', cap, cur, rfl, _, hh, _⟩
  · simp [Value.ownBlock] at e
  · simp only [Value.ownBlock, Option.some.injEq] at e
    subst e
    unfold Box at hb
    rw [hh] at hb
    injection hb with hb
    injection hb with _ h4
    exact hne h4
/-- a box is kept where an own row of another type has grown -/
theorem Box.grown_own {base sz n : Nat} {v : Value} {xs : List Value} (h : Box w g E2 cs) (hr : w.ownsRow base E sz v n xs) (hg : w.grownBy w' v.ownBlock) (hne : E ≠ E2) : Box w' g E2 cs :=
  h.keep (hg.block g h.lt (fun e => own_box_ne hr h hne e.symm))
end

end Go.Proofs.YtaggjadgbmmjoaaGreatDoor

/- Lists of 'int': their cells, and what the law text's own helpers do with them. No condition. -/
namespace Go.Proofs.YtaggjadgbmmjoaaGreatDoor
open Go.RowKit Go.ChangeShapes Go.WideShapes Go.Deep

def Nm.cells (x : Int) : List Value := [.int .i64 x]
theorem Nm.cells_len (x : Int) : (Nm.cells x).length = 1 := rfl
theorem Nm.info : (Tryz.prog.info? 3).map (fun i => (i.zero, i.size, i.bytes)) = some (some (.int .i64 0), 1, 8) := by kernel_rfl
theorem Nm.get {w : World} {lo hi : Nat} {A : Option Addr} {n c k : Nat} {l : List Int} (h : Rd Nm.cells 1 w lo hi (.slice A n c) l) (hk : k < n) {B : Nat} {wr : World} (hb : Below B w wr) (hB : hi ≤ B) :
    ∃ b off t, A = some ⟨b, off, none⟩ ∧ Hid (l[k]? = some t) ∧ lo ≤ b ∧ b < hi ∧ wr.cell? ⟨b, off + k, none⟩ = some (.int .i64 t) := by
  obtain ⟨b, off, t, hA, hx, h1, h2, h3⟩ := h.get hk hb hB
  exact ⟨b, off, t, hA, hx, h1, h2, by simpa using h3 0 _ rfl⟩
theorem Nm.one (y : Int) (u : Value) (h : u ∈ Nm.cells y) : u.oneCell' = true := by
  simp only [Nm.cells, List.mem_cons, List.not_mem_nil, or_false] at h
  subst h; rfl
theorem Nm.app_one {w : World} {ops : Array Oper} {rest : List Oper} {o : Oper} {a : Act} {Q : Exit → Act → World → Prop} (hgd : o.guard = none) (s x : Operand)
    (ho : o.op = .call { callee := .builtin .append, args := #[s, x], argTypes := #[39, 39] }) (base : Nat)
    (v : Value) (n : Nat) (xs : List Value) (hs : a.eval s = v) (hown : w.ownsRow base 3 1 v n xs) {g c : Nat} (y : Int) (hx : a.eval x = .slice (some ⟨g, 0, none⟩) 1 c) (hr : ∀ j u, (Nm.cells y)[j]? = some u → w.cell? ⟨g, j, none⟩ = some u)
    (hlen : n ≤ 4194304) (hbase : base ≤ w.heap.size)
    (h : ∀ v' w', w'.ownsRow base 3 1 v' (n + 1) (xs ++ Nm.cells y) → w.grownBy w' v.ownBlock → wpList Tryz.prog ops Q rest (a.put o.dst v') w') : wpList Tryz.prog ops Q (o :: rest) a w := by
  obtain ⟨i0, hi0, hz0, hz1, hz2⟩ := info_parts Nm.info
  exact wpList_append_own w hgd s x _ ho base _ i0 _ 1 _ Tryz.underlying39 hi0 hz0 hz1 hz2 rfl (by omega) v n xs hs hown ⟨g, 0, none⟩ 1 c (Nm.cells y) hx (by rw [Nm.cells_len]) (fun j u hu => by rw [Go.WideShapes.add_plain, Nat.zero_add]; exact hr j u hu) (Nm.one y) (by unfold maxLen; omega) (by omega) hbase
    fun v' w' h1 h2 _ => h v' w' h1 h2

end Go.Proofs.YtaggjadgbmmjoaaGreatDoor

/- The reader of choices of the reference's draws: a number of a bounded range, and only its own cell has turned. Condition: at most 1000000 reads. -/
namespace Go.Proofs.YtaggjadgbmmjoaaGreatDoor
open Go.RowKit Go.ChangeShapes Go.WideShapes Go.Deep

def By.cells (x : UInt8) : List Value := [.int .u8 (x.toNat : Int)]
theorem By.get {w : World} {lo hi : Nat} {A : Option Addr} {n c k : Nat} {l : List UInt8} (h : Rd By.cells 1 w lo hi (.slice A n c) l) (hk : k < n) {B : Nat} {wr : World} (hb : Below B w wr) (hB : hi ≤ B) :
    ∃ b off, ∃ t : Int, A = some ⟨b, off, none⟩ ∧ 0 ≤ t ∧ t ≤ 255 ∧ lo ≤ b ∧ b < hi ∧ wr.cell? ⟨b, off + k, none⟩ = some (.int .u8 t) := by
  obtain ⟨b, off, t, hA, hx, h1, h2, h3⟩ := h.get hk hb hB
  exact ⟨b, off, t.toNat, hA, by omega, by have := t.toNat_lt; omega, h1, h2, by simpa using h3 0 _ rfl⟩
set_option maxRecDepth 8000 in
theorem By.openS {H : Type} {enc : TypeId × Value → H} {w : World} {base : Nat} {spare : Nat → Bool} {held : Bool} {r : Reach} {b0 : Nat} {v : Value} {d : DataW H} {p : List MemPlace}
    (hv : Value.okWide Tryz.prog w r b0 22 v) (h : DataW.Trod enc Tryz.prog w base spare held 22 v d p) : ∃ l : List UInt8, Rd By.cells 1 w 0 w.heap.size v l :=
  open_rd1 (c := fun x : UInt8 => .int .u8 (x.toNat : Int)) Tryz.underlying22 (by kernel_rfl) (fun cs n y hy => by
    obtain ⟨a, e, _, hwf⟩ := DataW.trod_int Tryz.underlying5 hy
    simp only [Lit.wf, Bool.and_eq_true, decide_eq_true_eq] at hwf
    obtain ⟨h1, h2⟩ := hwf
    have h1' : 0 ≤ a := h1
    have h2' : a ≤ 255 := h2
    refine ⟨UInt8.ofNat a.toNat, ?_⟩
    rw [e]
    congr 2
    rw [UInt8.toNat_ofNat']
    omega) hv h

theorem grown_drewN {w w' : World} {row : Option Nat} (h : w.grownBy w' row) (n : Nat) : w.grownBy (w'.drewN n) row := ⟨h.os, h.tape, h.output, h.size, h.block⟩
theorem Box.grown0 {w w' : World} {g : Nat} {E : TypeId} {cs : List Value} (h : Box w g E cs) (hg : w.grownBy w' none) : Box w' g E cs := h.keep (hg.block g h.lt (by simp))
theorem grown_weaken {w w' : World} {row : Option Nat} (h : w.grownBy w' none) : w.grownBy w' row := ⟨h.os, h.tape, h.output, h.size, fun k hk _ => h.block k hk (by simp)⟩
def U64 (s : Int) : Prop := 0 ≤ s ∧ s < 18446744073709551616
theorem u64_wrap (n : Int) : U64 (IntKind.u64.wrap n) := by
  rw [IntKind.wrap_u64]
  unfold U64
  omega
theorem low8 (s : Int) (h : U64 s) : ∃ x : Int, wrap64 (bits BinOp.and IntKind.u64 (s / 1099511627776) 255) = x ∧ 0 ≤ x ∧ x ≤ 255 := by
  obtain ⟨n, rfl⟩ : ∃ n : Nat, s = n := ⟨s.toNat, by unfold U64 at h; omega⟩
  have h2 : n / 1099511627776 < 18446744073709551616 := by unfold U64 at h; omega
  have e : ((n : Int) / 1099511627776) = ((n / 1099511627776 : Nat) : Int) := by omega
  have hb := bits_and_u64_nat (n / 1099511627776) 255 h2 (by omega)
  have hl : (n / 1099511627776) &&& 255 ≤ 255 := Nat.and_le_right
  refine ⟨_, rfl, ?_⟩
  rw [e, show (255 : Int) = ((255 : Nat) : Int) from rfl, hb]
  unfold wrap64
  omega
/-- the reader at block g: at most k bytes have been asked for -/
def Cur (w : World) (g : Nat) (cv : Value) (k : Nat) : Prop := ∃ (a : Nat) (s : Int), a ≤ k ∧ Hid (U64 s) ∧ Box w g 53 [cv, .int .i64 a, .int .u64 s]

theorem Cur.lt {w : World} {g k : Nat} {cv : Value} (h : Cur w g cv k) : g < w.heap.size := by
  obtain ⟨a, s, _, _, b⟩ := h
  exact b.lt
theorem Cur.grown0 {w w' : World} {g k : Nat} {cv : Value} (h : Cur w g cv k) (hg : w.grownBy w' none) : Cur w' g cv k := by
  obtain ⟨a, s, h1, h2, b⟩ := h
  exact ⟨a, s, h1, h2, b.grown0 hg⟩
/-- only a block that the reader is not has turned -/
theorem Cur.other {w w' : World} {g k b : Nat} {cv : Value} (h : Cur w g cv k) (hg : w.grownBy w' (some b)) (hn : b ≠ g) : Cur w' g cv k := by
  obtain ⟨a, s, h1, h2, bx⟩ := h
  exact ⟨a, s, h1, h2, bx.keep (hg.block g bx.lt (fun e => hn (by injection e with e; exact e.symm)))⟩
theorem Cur.row {w w' : World} {g k : Nat} {cv : Value} {row : Option Nat} (h : Cur w g cv k) (hg : w.grownBy w' row) (hn : ∀ b, row = some b → b ≠ g) : Cur w' g cv k := by
  obtain ⟨a, s, h1, h2, bx⟩ := h
  exact ⟨a, s, h1, h2, bx.keep (hg.block g bx.lt (fun e => hn g e.symm rfl))⟩
theorem grown_alloc (w : World) (o : Obj) : w.grownBy (w.alloc o) none :=
  have b := (Below.refl w.heap.size w).alloc (Nat.le_refl _) o
  ⟨b.os, b.tape, b.output, b.size, fun k hk _ => b.block k hk⟩
/-- what has come since is new, but for one block's turning -/
theorem grown_new {w W W' : World} {row r2 : Option Nat} (h : w.grownBy W row) (k : W.grownBy W' r2) (hr : ∀ q, r2 = some q → w.heap.size ≤ q) : w.grownBy W' row :=
  ⟨k.os.trans h.os, k.tape.trans h.tape, k.output.trans h.output, Nat.le_trans h.size k.size, fun i hi hne => (k.block i (Nat.lt_of_lt_of_le hi h.size) (fun e => by have := hr i e.symm; omega)).trans (h.block i hi hne)⟩
theorem Ow.apart {α : Type} {cells : α → List Value} {sz : Nat} {E : TypeId} {w w' : World} {lo hi : Nat} {v : Value} {l : List α} {row : Option Nat} (h : Ow cells sz E w lo hi v l) (hg : w.grownBy w' row) (hr : ∀ g, row = some g → g < lo ∨ hi ≤ g) : Ow cells sz E w' lo hi v l :=
  h.keep fun b h1 h2 h3 => hg.block b h3 (fun e => by have := hr b e.symm; omega)
theorem Ow.take_ {α : Type} {cells : α → List Value} {sz : Nat} {E : TypeId} {w : World} {lo hi n c : Nat} {A : Option Addr} {l : List α} (h : Ow cells sz E w lo hi (.slice A n c) l) {k : Nat} (hk : k ≤ n) : Ow cells sz E w lo hi (.slice A k c) (l.take k) := by
  obtain ⟨A', c', hv, hc, hm, h⟩ := h
  injection hv with e1 e2 e3
  subst e1; subst e2; subst e3
  have hl : (l.take k).length = k := by rw [List.length_take]; omega
  refine ⟨_, _, by rw [hl], by omega, hm, fun hn => ?_⟩
  obtain ⟨b, off, cur, hA, hb1, hb2, hh, hz, hx⟩ := h (by omega)
  refine ⟨b, off, cur, hA, hb1, hb2, hh, hz, fun i x hi j u hu => ?_⟩
  rw [List.getElem?_take] at hi
  split at hi
  · exact hx i x hi j u hu
  · cases hi
theorem lit_ints (w : World) (ns : List Int) (cs : Array Value) (n : Nat) (hn : n = ns.length) (hcs : cs.toList = ns.map fun x => .int .i64 x) (h1 : n ≤ 1000) : Rd Nm.cells 1 (w.alloc (.cells cs 3)) w.heap.size (w.heap.size + 1) (.slice (some ⟨w.heap.size, 0, none⟩) n n) ns := by
  subst hn
  have b := Box.new (g := w.heap.size) w cs 3 rfl
  refine ⟨_, _, rfl, Nat.le_refl _, by unfold maxLen; omega, fun _ => ⟨w.heap.size, 0, rfl, Nat.le_refl _, by omega, fun k x hx j u hu => ?_⟩⟩
  have hj : j < 1 := (List.getElem?_eq_some_iff.1 hu).1
  obtain rfl : j = 0 := by omega
  simp only [Nm.cells, List.getElem?_cons_zero, Option.some.injEq] at hu
  subst hu
  have := b.cell (j := k) (u := .int .i64 x) (by rw [hcs]; simp [hx])
  simpa using this
theorem next_any (g k : Nat) (cv : Value) (l : List UInt8) (w : World) {lo hi : Nat} (h : Rd By.cells 1 w lo hi cv l) (hh : hi ≤ w.heap.size) (hc : Cur w g cv k) (hk : k ≤ 1000000) :
    Calls Tryz.prog 75 #[.pointer (some ⟨g, 0, none⟩)] w fun e w' => ∃ x : Int, e = .returned (.int .i64 x) ∧ 0 ≤ x ∧ x ≤ 255 ∧ w.grownBy w' (some g) ∧ Cur w' g cv (k + 1) := by
  obtain ⟨a, s, ha, _, bx⟩ := hc
  obtain ⟨A, n, c, rfl, H, hnc, hm⟩ := h.form
  have x0 := bx.cell (j := 0) rfl
  have x1 := bx.cell (j := 1) rfl
  have x2 := bx.cell (j := 2) rfl
  have xz := bx.frozen
  have xl := bx.lt
  have haw : IntKind.i64.wrap ((a : Int) + 1) = (a : Int) + 1 := IntWalk.i64_in _ (by omega)
  by_cases hlt : a < n
  · obtain ⟨b, off, t, rfl, ht0, ht1, _, hbh, f0⟩ := By.get h hlt (Below.refl w.heap.size w) hh
    have hki : (a : Int) < (n : Int) := by omega
    have htw : IntKind.i64.wrap t = t := IntWalk.i64_in _ (by omega)
    have hle : decide ((a : Int) + 1 ≤ (n : Int)) = true := decide_eq_true (by omega)
    go_enter Tryz.func75, Tryz.ntmps75
    go_wp2_with fail
    go_quiet (fail)
    go_upto_region 3 with fail
    go_quiet (fail)
    go_upto_region 5 with fail
    generalize hwz : World.setCell _ _ _ = wz_
    obtain ⟨wq, gq, rfl⟩ : ∃ wq, w.grownBy wq none ∧ wz_ = setL wq g 1 [.int .i64 ((a : Int) + 1)] := ⟨_, by exact grown_drewN (World.grownBy.refl w _) _, hwz.symm⟩
    clear hwz x0 x1 x2 xz xl
    have bx1 := (bx.grown0 gq).set1 (j := 1) (.int .i64 ((a : Int) + 1)) (by simp)
    have g1 := grown_trans (row := some g) (grown_weaken gq) (setL_grown [.int .i64 ((a : Int) + 1)] wq g 1)
    generalize setL wq g 1 _ = w1 at *
    have x0 := bx1.cell (j := 0) rfl
    have x1 := bx1.cell (j := 1) rfl
    have x2 := bx1.cell (j := 2) rfl
    have xz := bx1.frozen
    have xl := bx1.lt
    go_upto_region 6 with fail
    generalize hwz : World.setCell _ _ _ = wz_
    obtain ⟨s', HS, rfl⟩ : ∃ s' : Int, Hid (U64 s') ∧ wz_ = setL w1 g 2 [.int .u64 s'] := ⟨_, Lib.hid (u64_wrap _), hwz.symm⟩
    clear hwz x0 x1 x2 xz xl
    have bx2 := bx1.set1 (j := 2) (.int .u64 s') (by simp)
    have g2 := grown_trans g1 (setL_grown [.int .u64 s'] w1 g 2)
    generalize setL w1 g 2 _ = w2 at *
    have x0 := bx2.cell (j := 0) rfl
    have x1 := bx2.cell (j := 1) rfl
    have x2 := bx2.cell (j := 2) rfl
    have xl := bx2.lt
    go_quiet (fail)
    go_wp2_with fail
    go_ret
    exact ⟨_, rfl, ht0, ht1, grown_drewN g2 _, a + 1, s', by omega, HS, bx2.drewN _⟩
  · have hki : ¬ (a : Int) < (n : Int) := by omega
    have hle : decide ((a : Int) + 1 ≤ (n : Int)) = false := decide_eq_false (by omega)
    go_enter Tryz.func75, Tryz.ntmps75
    go_wp2_with fail
    go_quiet (fail)
    go_upto_region 5 with fail
    generalize hwz : World.setCell _ _ _ = wz_
    obtain ⟨wq, gq, rfl⟩ : ∃ wq, w.grownBy wq none ∧ wz_ = setL wq g 1 [.int .i64 ((a : Int) + 1)] := ⟨_, by exact grown_drewN (World.grownBy.refl w _) _, hwz.symm⟩
    clear hwz x0 x1 x2 xz xl
    have bx1 := (bx.grown0 gq).set1 (j := 1) (.int .i64 ((a : Int) + 1)) (by simp)
    have g1 := grown_trans (row := some g) (grown_weaken gq) (setL_grown [.int .i64 ((a : Int) + 1)] wq g 1)
    generalize setL wq g 1 _ = w1 at *
    have x0 := bx1.cell (j := 0) rfl
    have x1 := bx1.cell (j := 1) rfl
    have x2 := bx1.cell (j := 2) rfl
    have xz := bx1.frozen
    have xl := bx1.lt
    go_upto_region 6 with fail
    generalize hwz : World.setCell _ _ _ = wz_
    obtain ⟨s', HS, rfl⟩ : ∃ s' : Int, Hid (U64 s') ∧ wz_ = setL w1 g 2 [.int .u64 s'] := ⟨_, Lib.hid (u64_wrap _), hwz.symm⟩
    clear hwz x0 x1 x2 xz xl
    have bx2 := bx1.set1 (j := 2) (.int .u64 s') (by simp)
    have g2 := grown_trans g1 (setL_grown [.int .u64 s'] w1 g 2)
    generalize setL w1 g 2 _ = w2 at *
    have x0 := bx2.cell (j := 0) rfl
    have x1 := bx2.cell (j := 1) rfl
    have x2 := bx2.cell (j := 2) rfl
    have xl := bx2.lt
    go_quiet (fail)
    go_wp2_with fail
    obtain ⟨x, hx, hx0, hx1⟩ := low8 s' HS.out
    rw [hx]
    go_ret
    exact ⟨x, rfl, hx0, hx1, grown_drewN g2 _, a + 1, s', by omega, HS, bx2.drewN _⟩
theorem Cur.mono {w : World} {g k k' : Nat} {cv : Value} (h : Cur w g cv k) (hk : k ≤ k') : Cur w g cv k' := by
  obtain ⟨a, s, h1, h2, h3⟩ := h
  exact ⟨a, s, by omega, h2, h3⟩
theorem pick_any (g k : Nat) (cv : Value) (l : List UInt8) (n : Int) (w : World) {lo hi : Nat} (h : Rd By.cells 1 w lo hi cv l) (hh : hi ≤ w.heap.size) (hg : g < lo ∨ hi ≤ g) (hc : Cur w g cv k) (hk : k ≤ 900000) (hn : n ≤ 1000000) :
    Calls Tryz.prog 55 #[.pointer (some ⟨g, 0, none⟩), .int .i64 n] w fun e w' => ∃ x : Int, e = .returned (.int .i64 x) ∧ 0 ≤ x ∧ (x < n ∨ n < 1 ∧ x = 0) ∧ w.grownBy w' (some g) ∧ Cur w' g cv (k + 2) := by
  by_cases h1 : n ≤ 1
  · go_enter Tryz.func55, Tryz.ntmps55
    go_wp2_with fail
    go_ret
    exact ⟨0, rfl, by omega, by omega, World.grownBy.refl w _, hc.mono (by omega)⟩
  · have hnz : ¬ n = 0 := by omega
    have c1 := next_any g k cv l w h hh hc (by omega)
    by_cases h2 : n ≤ 200
    · have h2d : decide ((200 : Int) < n) = false := decide_eq_false (by omega)
      go_enter Tryz.func55, Tryz.ntmps55
      go_wp2_with fail
      refine c1.mono ?_; rintro q_ w1 ⟨x, rfl, hx0, hx1, g1, k1⟩
      go_wp2_with fail
      go_ret
      exact ⟨x % n, rfl, Int.emod_nonneg _ (by omega), .inl (Int.emod_lt_of_pos _ (by omega)), g1, k1.mono (by omega)⟩
    · have h2d : decide ((200 : Int) < n) = true := decide_eq_true (by omega)
      go_enter Tryz.func55, Tryz.ntmps55
      go_wp2_with fail
      refine c1.mono ?_; rintro q_ w1 ⟨x, rfl, hx0, hx1, g1, k1⟩
      have c2 := next_any g (k + 1) cv l w1 (h.grown g1 hh (fun q e => by injection e with e; omega)) (Nat.le_trans hh g1.size) k1 (by omega)
      go_wp2_with fail
      refine c2.mono ?_; rintro q_ w2 ⟨y, rfl, hy0, hy1, g2, k2⟩
      go_wp2_with fail
      go_ret
      exact ⟨(x * 256 + y) % n, rfl, Int.emod_nonneg _ (by omega), .inl (Int.emod_lt_of_pos _ (by omega)), grown_trans g1 g2, k2.mono (by omega)⟩
theorem one_any (g k : Nat) (cv : Value) (l : List UInt8) (n : Int) (w : World) {lo hi : Nat} (h : Rd By.cells 1 w lo hi cv l) (hh : hi ≤ w.heap.size) (hg : g < lo ∨ hi ≤ g) (hc : Cur w g cv k) (hk : k ≤ 900000) (hn : n ≤ 1000000) :
    Calls Tryz.prog 51 #[.pointer (some ⟨g, 0, none⟩), .int .i64 n] w fun e w' => ∃ b : Bool, e = .returned (.bool b) ∧ w.grownBy w' (some g) ∧ Cur w' g cv (k + 2) := by
  have c1 := pick_any g k cv l n w h hh hg hc hk hn
  go_enter Tryz.func51, Tryz.ntmps51
  go_wp2_with fail
  refine c1.mono ?_; rintro q_ w1 ⟨x, rfl, _, _, g1, k1⟩
  go_wp2_with fail
  go_ret
  exact ⟨_, rfl, g1, k1⟩
theorem among_any (g k : Nat) (cv nv : Value) (l : List UInt8) (ns : List Int) (w : World) {lo hi lo2 hi2 : Nat} (h : Rd By.cells 1 w lo hi cv l) (hh : hi ≤ w.heap.size) (hg : g < lo ∨ hi ≤ g) (h2 : Rd Nm.cells 1 w lo2 hi2 nv ns) (hh2 : hi2 ≤ w.heap.size) (hg2 : g < lo2 ∨ hi2 ≤ g) (hn0 : 0 < ns.length) (hn1 : ns.length ≤ 1000000) (hc : Cur w g cv k) (hk : k ≤ 900000) :
    Calls Tryz.prog 37 #[.pointer (some ⟨g, 0, none⟩), nv] w fun e w' => ∃ x : Int, e = .returned (.int .i64 x) ∧ w.grownBy w' (some g) ∧ Cur w' g cv (k + 2) := by
  obtain ⟨A, n, c, rfl, H, hnc, hm⟩ := h2.form
  have hnl : n = ns.length := H.out
  have hn2 : 0 < n := by omega
  have hn3 : n ≤ 1000000 := by omega
  clear hnl
  have c1 := pick_any g k cv l n w h hh hg hc hk (by omega)
  go_enter Tryz.func37, Tryz.ntmps37
  go_wp2_with fail
  refine c1.mono ?_; rintro q_ w1 ⟨x, rfl, hx0, hx1, g1, k1⟩
  have hxn : x < (n : Int) := by omega
  obtain ⟨j, rfl⟩ : ∃ j : Nat, x = j := ⟨x.toNat, by omega⟩
  have hjn : j < n := by omega
  clear hx1
  have h3 := h2.grown g1 hh2 (fun q e => by injection e with e; omega)
  obtain ⟨b, off, y, rfl, _, _, _, f0⟩ := Nm.get h3 hjn (Below.refl w1.heap.size w1) (Nat.le_trans hh2 g1.size)
  go_wp2_with fail
  go_ret
  exact ⟨y, rfl, g1, k1⟩

end Go.Proofs.YtaggjadgbmmjoaaGreatDoor

/- The reference's draws of irqs and numbers: they return something, in new memory. Condition: at most 100000 reads before. -/
namespace Go.Proofs.YtaggjadgbmmjoaaGreatDoor
open Go.RowKit Go.ChangeShapes Go.WideShapes Go.Deep

theorem irq_any (g k : Nat) (cv : Value) (l : List UInt8) (w : World) {lo hi : Nat} (h : Rd By.cells 1 w lo hi cv l) (hh : hi ≤ w.heap.size) (hg : g < lo ∨ hi ≤ g) (hc : Cur w g cv k) (hk : k ≤ 100000) :
    Calls Tryz.prog 26 #[.pointer (some ⟨g, 0, none⟩)] w fun e w' => ∃ x : Int, e = .returned (.int .i64 x) ∧ w.grownBy w' (some g) ∧ Cur w' g cv (k + 10) := by
  have hgl := hc.lt
  have hG := World.grownBy.refl w (some g)
  go_enter Tryz.func26, Tryz.ntmps26
  go_wp2_with fail
  refine (one_any g _ _ l 20 w h (by omega) hg hc (by omega) (by omega)).mono ?_; rintro q_ w1 ⟨b1, rfl, gg1, kk1⟩
  clear hc
  replace h := h.grown gg1 (by omega) (fun q e => by injection e with e; omega)
  replace hG := grown_trans hG gg1
  have z_2 := gg1.size
  clear gg1
  cases b1
  · go_wp2_with fail
    refine (pick_any g _ _ l 8 w1 h (by omega) hg kk1 (by omega) (by omega)).mono ?_; rintro q_ w3 ⟨x2, rfl, x2_0, x2_1, gg3, kk3⟩
    clear kk1
    replace h := h.grown gg3 (by omega) (fun q e => by injection e with e; omega)
    replace hG := grown_trans hG gg3
    have z_4 := gg3.size
    clear gg3
    go_wp2_with fail
    go_ret
    exact ⟨_, rfl, hG, kk3.mono (by omega)⟩
  · go_wp2_with fail
    have rl := lit_ints w1 [-1, 8] #[.int .i64 (-1), .int .i64 8] 2 rfl rfl (by decide)
    have ga3 := grown_alloc w1 (.cells #[.int .i64 (-1), .int .i64 8] 3)
    have za3 : (w1.alloc (.cells #[.int .i64 (-1), .int .i64 8] 3)).heap.size = w1.heap.size + 1 := by simp
    replace kk1 := kk1.grown0 ga3
    replace h := h.grown ga3 (by omega) (fun q e => by cases e)
    replace hG := grown_trans hG (grown_weaken ga3)
    have z_4 := ga3.size
    clear ga3
    generalize w1.alloc _ = w3 at *
    generalize hgz4 : w1.heap.size = gz4 at *
    clear hgz4
    refine (among_any g _ _ _ l [-1, 8] w3 h (by omega) hg rl (by omega) (by omega) (by decide) (by decide) kk1 (by omega)).mono ?_; rintro q_ w5 ⟨x2, rfl, gg5, kk5⟩
    clear kk1
    replace h := h.grown gg5 (by omega) (fun q e => by injection e with e; omega)
    replace hG := grown_trans hG gg5
    have z_6 := gg5.size
    clear gg5
    clear rl
    go_wp2_with fail
    go_ret
    exact ⟨_, rfl, hG, kk5.mono (by omega)⟩
theorem prio_any (g k : Nat) (cv : Value) (l : List UInt8) (w : World) {lo hi : Nat} (h : Rd By.cells 1 w lo hi cv l) (hh : hi ≤ w.heap.size) (hg : g < lo ∨ hi ≤ g) (hc : Cur w g cv k) (hk : k ≤ 100000) :
    Calls Tryz.prog 27 #[.pointer (some ⟨g, 0, none⟩)] w fun e w' => ∃ x : Int, e = .returned (.int .i64 x) ∧ w.grownBy w' (some g) ∧ Cur w' g cv (k + 10) := by
  have hgl := hc.lt
  have hG := World.grownBy.refl w (some g)
  go_enter Tryz.func27, Tryz.ntmps27
  go_wp2_with fail
  have rl := lit_ints w [0, 1, 2, 3, 5, 8, 15, 4, 4, 7, 12, 16, -1, 6] #[.int .i64 0, .int .i64 1, .int .i64 2, .int .i64 3, .int .i64 5, .int .i64 8, .int .i64 15, .int .i64 4, .int .i64 4, .int .i64 7, .int .i64 12, .int .i64 16, .int .i64 (-1), .int .i64 6] 14 rfl rfl (by decide)
  have ga1 := grown_alloc w (.cells #[.int .i64 0, .int .i64 1, .int .i64 2, .int .i64 3, .int .i64 5, .int .i64 8, .int .i64 15, .int .i64 4, .int .i64 4, .int .i64 7, .int .i64 12, .int .i64 16, .int .i64 (-1), .int .i64 6] 3)
  have za1 : (w.alloc (.cells #[.int .i64 0, .int .i64 1, .int .i64 2, .int .i64 3, .int .i64 5, .int .i64 8, .int .i64 15, .int .i64 4, .int .i64 4, .int .i64 7, .int .i64 12, .int .i64 16, .int .i64 (-1), .int .i64 6] 3)).heap.size = w.heap.size + 1 := by simp
  replace hc := hc.grown0 ga1
  replace h := h.grown ga1 (by omega) (fun q e => by cases e)
  replace hG := grown_trans hG (grown_weaken ga1)
  have z_2 := ga1.size
  clear ga1
  generalize w.alloc _ = w1 at *
  refine (among_any g _ _ _ l [0, 1, 2, 3, 5, 8, 15, 4, 4, 7, 12, 16, -1, 6] w1 h (by omega) hg rl (by omega) (by omega) (by decide) (by decide) hc (by omega)).mono ?_; rintro q_ w3 ⟨x2, rfl, gg3, kk3⟩
  clear hc
  replace h := h.grown gg3 (by omega) (fun q e => by injection e with e; omega)
  replace hG := grown_trans hG gg3
  have z_4 := gg3.size
  clear gg3
  clear rl
  go_wp2_with fail
  go_ret
  exact ⟨_, rfl, hG, kk3.mono (by omega)⟩

end Go.Proofs.YtaggjadgbmmjoaaGreatDoor

/- append onto an own row of which only its cells and its room are known. No condition but sizes. -/
namespace Go.Proofs.YtaggjadgbmmjoaaGreatDoor
open Go.RowKit Go.ChangeShapes Go.WideShapes Go.Deep

theorem setCells_setL3 (b : Nat) : ∀ (vs : List Value) (w : World) (o : Nat), w.setCells b o vs = setL w b o vs
  | [], _, _ => rfl
  | v :: vs, w, o => by unfold World.setCells setL; exact setCells_setL3 b vs _ (o + 1)

/-- append into the room that a row has: the new cells are stored behind it -/
theorem run_append_room_ {P : Program} (w : World) (t ty e : TypeId) (i : TypeInfo) (sz : Nat) (ht : P.underlying t = some (.slice e)) (hi : P.info? e = some i) (hs : i.size = sz) (g off n c : Nat) (A2 : Option Addr) (m c2 : Nat) (news : List Value)
    (hsrc : (Builtin.firstCells sz m (.slice A2 m c2)).run P w = .ok news.toArray w) (hroom : n + m ≤ c)
    (hc : ∀ j, j < news.length → (w.cell? ⟨g, off + n * sz + j, none⟩).isSome = true) (hf : ∀ j, j < news.length → w.frozen? ⟨g, off + n * sz + j, none⟩ = false) (h1 : ∀ v ∈ news, v.oneCell' = true) :
    (Builtin.append_ #[t, t] ty #[.slice (some ⟨g, off, none⟩) n c, .slice A2 m c2]).run P w = .ok (.slice (some ⟨g, off, none⟩) (n + m) c) (setL w g (off + n * sz) news) := by
  rw [← setCells_setL3]
  have hst := run_storeCells_cells (P := P) g (off + n * sz) news 0 w (by simpa using hc) (by simpa using hf) h1
  simp only [Nat.add_zero] at hst
  simp [Builtin.append_, run_underlying ht, sizeOf, typeInfo, hi, hs, Builtin.lenOf, hsrc, hroom, Go.WideShapes.add_plain, hst]

theorem run_app_ow {α : Type} {cells : α → List Value} {P : Program} (w : World) (t ty e : TypeId) (i : TypeInfo) (z : Value) (sz bytes : Nat) (ht : P.underlying t = some (.slice e)) (hi : P.info? e = some i) (hz : i.zero = some z)
    (hsize : i.size = sz) (hby : i.bytes = bytes) (hzs : z.cells.size = sz) (hsz : 0 < sz) (hcl : ∀ x, (cells x).length = sz) (h1 : ∀ y u, u ∈ cells y → u.oneCell' = true)
    {lo hi' n c : Nat} {A : Option Addr} {l : List α} (h : Ow cells sz e w lo hi' (.slice A n c) l) (g cx : Nat) (x : α) (hnews : ∀ j u, (cells x)[j]? = some u → w.cell? ⟨g, j, none⟩ = some u)
    (h63 : n + 1 ≤ maxLen) (hbytes : (n + 1) * bytes ≤ 140737488355328) (hlo : lo ≤ w.heap.size) (hhi : hi' ≤ w.heap.size) :
    ∃ v' w', (Builtin.append_ #[t, t] ty #[.slice A n c, .slice (some ⟨g, 0, none⟩) 1 cx]).run P w = .ok v' w' ∧ Ow cells sz e w' lo w'.heap.size v' (l ++ [x]) ∧ (∃ row, w.grownBy w' row ∧ ∀ q, row = some q → lo ≤ q ∧ q < hi' ∧ ∃ cur, w.heap[q]? = some (.cells cur e (0, 0))) := by
  have hnews' : ∀ j u, (cells x)[j]? = some u → w.cell? ((⟨g, 0, none⟩ : Addr).add j) = some u := fun j u hu => by rw [Go.WideShapes.add_plain, Nat.zero_add]; exact hnews j u hu
  obtain ⟨A', c', hv, hnc, hcm, hx⟩ := h
  injection hv with e1 e2 e3
  subst e1; subst e2; subst e3
  have hll : (l ++ [x]).length = l.length + 1 := by simp
  have hfl : ((l ++ [x]).flatMap cells) = l.flatMap cells ++ cells x := by rw [List.flatMap_append]; simp
  rcases A with _ | a
  · have hc0 : c = 0 := by
      rcases Nat.eq_zero_or_pos c with h0 | h0
      · exact h0
      · obtain ⟨b, off, cur, hA, _⟩ := hx h0; cases hA
    subst hc0
    have hl0 : l = [] := List.eq_nil_of_length_eq_zero (by omega)
    subst hl0
    obtain ⟨v', w', hr, h2, h3, _⟩ := run_append_own (P := P) w lo t ty e i z sz bytes ht hi hz hsize hby hzs hsz (.slice none 0 0) 0 [] (World.ownsRow_nil w lo e sz) ⟨g, 0, none⟩ 1 cx (cells x) (by rw [hcl, Nat.one_mul]) hnews' (h1 x) h63 hbytes hlo
    exact ⟨v', w', hr, Ow.of_own hcl h2 (by simp) (by simp), none, h3, fun q e => by cases e⟩
  · by_cases hroom : l.length + 1 ≤ c
    · obtain ⟨b, off, cur, hA, hb1, hb2, hh, hz2, hxc⟩ := hx (by omega)
      injection hA with hA
      subst hA
      have hmul : (l.length + 1) * sz ≤ c * sz := Nat.mul_le_mul_right _ hroom
      rw [Nat.succ_mul] at hmul
      have hsrc : (Builtin.firstCells sz 1 (.slice (some ⟨g, 0, none⟩) 1 cx)).run P w = .ok (cells x).toArray w := run_firstCells_some (P := P) w sz 1 ⟨g, 0, none⟩ 1 cx (cells x) (by rw [hcl, Nat.one_mul]) hnews'
      have hrun := run_append_room_ (P := P) w t ty e i sz ht hi hsize b off l.length c (some ⟨g, 0, none⟩) 1 cx (cells x) hsrc hroom (fun j hj => by
        rw [cell_of_row w b _ cur e (0, 0) hh]
        rw [hcl] at hj
        have : off + l.length * sz + j < cur.size := by omega
        simp [this]) (fun j _ => frozen_of_row w b _ cur e hh) (h1 x)
      obtain ⟨cur', f1, f2, f3, f4⟩ := setL_row e (cells x) w b (off + l.length * sz) cur hh (by rw [hcl]; omega)
      have hsS := setL_size (cells x) w b (off + l.length * sz)
      refine ⟨_, _, hrun, ⟨_, c, by rw [hll], by omega, hcm, fun _ => ⟨b, off, cur', rfl, hb1, by omega, f1, by omega, fun k y hy j u hu => ?_⟩⟩, some b, setL_grown (cells x) w b _, fun q e' => by injection e' with e'; subst e'; exact ⟨hb1, hb2, cur, hh⟩⟩
      have hj : j < sz := by rw [← hcl y]; exact (List.getElem?_eq_some_iff.1 hu).1
      by_cases hk : k < l.length
      · rw [List.getElem?_append_left hk] at hy
        have h5 : (k + 1) * sz ≤ l.length * sz := Nat.mul_le_mul_right _ hk
        rw [Nat.succ_mul] at h5
        rw [f4 _ (by omega)]
        exact hxc k y hy j u hu
      · have hk2 : k = l.length := by
          have := (List.getElem?_eq_some_iff.1 hy).1
          rw [hll] at this; omega
        subst hk2
        simp at hy
        subst hy
        exact f3 j u hu
    · have holds : ∀ j u, (l.flatMap cells)[j]? = some u → w.cell? (a.add j) = some u := by
        intro j u hu
        obtain ⟨k, y, i', hk, hy, rfl⟩ := flat_inv hcl l j u hu
        have hlt := (List.getElem?_eq_some_iff.1 hk).1
        obtain ⟨b, off, cur, hA, _, _, hh, _, hxc⟩ := hx (by omega)
        injection hA with hA
        subst hA
        rw [Go.WideShapes.add_plain, ← Nat.add_assoc, cell_of_row w b _ cur e (0, 0) hh]
        exact hxc k y hk i' u hy
      have hsmall : l.length + 1 ≤ 9223372036854775807 := by simp only [maxLen] at h63; omega
      subst hsize
      subst hby
      have hr := run_append_grow (P := P) w t ty e i z ht hi hz a l.length c (l.flatMap cells) (flat_len hcl l) holds ⟨g, 0, none⟩ 1 cx (cells x) (by rw [hcl, Nat.one_mul]) hnews' (by omega) (by omega) (growslice_fits (by omega) hbytes)
      have hge := grownCap_ge w (l.length + 1) c e
      have hcm2 : grownCap w (l.length + 1) c e ≤ maxLen := grownCap_le_maxLen w (l.length + 1) c e h63
      have hown : (w.drew.alloc (.cells ((l.flatMap cells).toArray ++ (cells x).toArray ++ Builtin.zeroCells z.cells (grownCap w (l.length + 1) c e - (l.length + 1))) e)).ownsRow lo e i.size
          (.slice (some ⟨w.heap.size, 0, none⟩) (l.length + 1) (grownCap w (l.length + 1) c e)) (l.length + 1) (l.flatMap cells ++ cells x) := by
        have hlen : (l.flatMap cells ++ cells x).length = (l.length + 1) * i.size := by rw [List.length_append, flat_len hcl, hcl, Nat.succ_mul]
        refine ⟨hlen, .inr ⟨w.heap.size, _, _, rfl, hlo, heap_alloc_new w.drew _, hge, hcm2, ?_, ?_⟩⟩
        · simp only [Array.size_append, List.size_toArray, size_zeroCells, hzs, flat_len hcl, hcl]
          rw [show l.length * i.size + i.size = (l.length + 1) * i.size by rw [Nat.succ_mul], ← Nat.add_mul]
          congr 1
          omega
        · simp only [Array.toList_append, List.append_assoc]
          rw [← List.append_assoc, ← hlen]
          exact List.take_left
      refine ⟨_, _, hr, Ow.of_own hcl hown hfl.symm hll.symm, none, ⟨rfl, rfl, rfl, by simp, fun k hk _ => (World.grownBy_alloc w.drew _ none).block k hk (by simp)⟩, fun q e => by cases e⟩

theorem wp_app_ow {α : Type} {cells : α → List Value} {P : Program} {w : World} {ops : Array Oper} {rest : List Oper} {o : Oper} {a : Act} {Q : Exit → Act → World → Prop} (hgd : o.guard = none) (s x : Operand) (t : TypeId)
    (ho : o.op = .call { callee := .builtin .append, args := #[s, x], argTypes := #[t, t] })
    (e : TypeId) (i : TypeInfo) (z : Value) (sz bytes : Nat) (ht : P.underlying t = some (.slice e)) (hi : P.info? e = some i) (hz : i.zero = some z)
    (hsize : i.size = sz) (hby : i.bytes = bytes) (hzs : z.cells.size = sz) (hsz : 0 < sz) (hcl : ∀ x, (cells x).length = sz) (h1 : ∀ y u, u ∈ cells y → u.oneCell' = true)
    {lo hi' n c : Nat} {A : Option Addr} {l : List α} (hs : a.eval s = .slice A n c) (h : Ow cells sz e w lo hi' (.slice A n c) l) (g cx : Nat) (y : α) (hx : a.eval x = .slice (some ⟨g, 0, none⟩) 1 cx) (hnews : ∀ j u, (cells y)[j]? = some u → w.cell? ⟨g, j, none⟩ = some u)
    (h63 : n + 1 ≤ maxLen) (hbytes : (n + 1) * bytes ≤ 140737488355328) (hlo : lo ≤ w.heap.size) (hhi : hi' ≤ w.heap.size)
    (hk : ∀ v' w' row, Ow cells sz e w' lo w'.heap.size v' (l ++ [y]) → w.grownBy w' row → (∀ q, row = some q → lo ≤ q ∧ q < hi' ∧ ∃ cur, w.heap[q]? = some (.cells cur e (0, 0))) → wpList P ops Q rest (a.put o.dst v') w') : wpList P ops Q (o :: rest) a w := by
  refine wpList_plain hgd fun K hK => ?_
  obtain ⟨v', w', hrun, h2, row, h3, h4⟩ := run_app_ow (P := P) w t o.type e i z sz bytes ht hi hz hsize hby hzs hsz hcl h1 h g cx y hnews h63 hbytes hlo hhi
  unfold Oper.wp execOp
  simp only [ho, resolve, invoke, builtin, Sem.run_bind, Sem.run_pure, Result.andThen_ok, List.map_toArray, List.map_cons, List.map_nil, hs, hx, hrun]
  exact hK _ _ (hk v' w' row h2 h3 h4)
end Go.Proofs.YtaggjadgbmmjoaaGreatDoor

/- The program's and the reference's small tests on numbers. No condition. -/
namespace Go.Proofs.YtaggjadgbmmjoaaGreatDoor
open Go.RowKit Go.ChangeShapes Go.WideShapes Go.Deep

/-- is a number in a range -/
def inB (n a b : Int) : Bool := decide (a ≤ n) && decide (n ≤ b)
theorem inB_true {n a b : Int} (h : inB n a b = true) : a ≤ n ∧ n ≤ b := by simpa [inB] using h
theorem inB_iff (n a b : Int) : inB n a b = true ↔ a ≤ n ∧ n ≤ b := by simp [inB]

theorem l1In_any (n a b : Int) (w : World) : Calls Tryz.prog 40 #[.int .i64 n, .int .i64 a, .int .i64 b] w fun e w' => e = .returned (.bool (inB n a b)) ∧ w = w' := by
  go_enter Tryz.func40, Tryz.ntmps40
  go_wp2
  all_goals (go_ret; exact ⟨ret_bool (by simp [inB, *] <;> omega), rfl⟩)
theorem inside_any (n a b : Int) (w : World) : Calls Tryz.prog 35 #[.int .i64 n, .int .i64 a, .int .i64 b] w fun e w' => e = .returned (.bool (inB n a b)) ∧ w = w' := by
  go_enter Tryz.func35, Tryz.ntmps35
  go_wp2
  all_goals (go_ret; exact ⟨ret_bool (by simp [inB, *] <;> omega), rfl⟩)
theorem l6Irq_any (n : Int) (w : World) : Calls Tryz.prog 32 #[.int .i64 n] w fun e w' => e = .returned (.bool (inB n 0 7)) ∧ w = w' := by
  go_enter Tryz.func32, Tryz.ntmps32
  go_wp2_with (go_at_call 40; refine (l1In_any _ _ _ _).mono ?_; rintro e w' ⟨rfl, rfl⟩)
  go_ret
  exact ⟨rfl, rfl⟩
theorem isIrq_any (n : Int) (w : World) : Calls Tryz.prog 28 #[.int .i64 n] w fun e w' => e = .returned (.bool (inB n 0 7)) ∧ w = w' := by
  go_enter Tryz.func28, Tryz.ntmps28
  go_wp2_with (go_at_call 35; refine (inside_any _ _ _ _).mono ?_; rintro e w' ⟨rfl, rfl⟩)
  go_ret
  exact ⟨rfl, rfl⟩
theorem l6Prio_any (n : Int) (w : World) : Calls Tryz.prog 33 #[.int .i64 n] w fun e w' => e = .returned (.bool (inB n 0 15)) ∧ w = w' := by
  go_enter Tryz.func33, Tryz.ntmps33
  go_wp2_with (go_at_call 40; refine (l1In_any _ _ _ _).mono ?_; rintro e w' ⟨rfl, rfl⟩)
  go_ret
  exact ⟨rfl, rfl⟩
theorem isPriority_any (n : Int) (w : World) : Calls Tryz.prog 29 #[.int .i64 n] w fun e w' => e = .returned (.bool (inB n 0 15)) ∧ w = w' := by
  go_enter Tryz.func29, Tryz.ntmps29
  go_wp2_with (go_at_call 35; refine (inside_any _ _ _ _).mono ?_; rintro e w' ⟨rfl, rfl⟩)
  go_ret
  exact ⟨rfl, rfl⟩
theorem isMask_any (n : Int) (w : World) : Calls Tryz.prog 38 #[.int .i64 n] w fun e w' => e = .returned (.bool (inB n 0 16)) ∧ w = w' := by
  go_enter Tryz.func38, Tryz.ntmps38
  go_wp2_with (go_at_call 35; refine (inside_any _ _ _ _).mono ?_; rintro e w' ⟨rfl, rfl⟩)
  go_ret
  exact ⟨rfl, rfl⟩

end Go.Proofs.YtaggjadgbmmjoaaGreatDoor

/- The type 'Slot' of the law text and of the program: its data, its cells, and what the law text's own helpers do with lists of it. No condition. -/
namespace Go.Proofs.YtaggjadgbmmjoaaGreatDoor
open Go.RowKit Go.ChangeShapes Go.WideShapes Go.Deep

structure Sl where
  state : Int
  irq : Int
  prio : Int
  deriving DecidableEq, Inhabited

def Sl.cells (t : Sl) : List Value := [.int .i64 t.state, .int .i64 t.irq, .int .i64 t.prio]
def Sl.val (t : Sl) : Value := .agg #[.int .i64 t.state, .int .i64 t.irq, .int .i64 t.prio]
def Sl.zero : Sl := ⟨0, 0, 0⟩
theorem Sl.cells_len (t : Sl) : t.cells.length = 3 := rfl
theorem Sl.info : (Tryz.prog.info? 34).map (fun i => (i.zero, i.size, i.bytes)) = some (some (.agg #[.int .i64 0, .int .i64 0, .int .i64 0]), 3, 24) := by kernel_rfl
theorem Sl.get {w : World} {lo hi : Nat} {A : Option Addr} {n c k : Nat} {l : List Sl} (h : Rd Sl.cells 3 w lo hi (.slice A n c) l) (hk : k < n) {B : Nat} {wr : World} (hb : Below B w wr) (hB : hi ≤ B) :
    ∃ b off t, A = some ⟨b, off, none⟩ ∧ Hid (l[k]? = some t) ∧ lo ≤ b ∧ b < hi ∧ wr.cell? ⟨b, off + k * 3, none⟩ = some (.int .i64 t.state) ∧ wr.cell? ⟨b, off + k * 3 + 1, none⟩ = some (.int .i64 t.irq) ∧ wr.cell? ⟨b, off + k * 3 + 2, none⟩ = some (.int .i64 t.prio) := by
  obtain ⟨b, off, t, hA, hx, h1, h2, h3⟩ := h.get hk hb hB
  exact ⟨b, off, t, hA, hx, h1, h2, h3 0 _ rfl, h3 1 _ rfl, h3 2 _ rfl⟩
theorem Sl.index_any (g : FuncId) (lb : Array Value) (p : Sl → Bool) (v : Value) (l : List Sl) (w : World) {lo hi : Nat} (h : Rd Sl.cells 3 w lo hi v l) (hh : hi ≤ w.heap.size)
    (eg : ∀ args w, (callFunc g args).run Tryz.prog w = .ok (.enter g args) w)
    (hp : ∀ (t : Sl) (W : World), t ∈ l → Below w.heap.size w W → Calls Tryz.prog g (#[t.val] ++ lb) W fun e w' => e = .returned (.bool (p t)) ∧ Below W.heap.size W w') :
    Calls Tryz.prog 62 #[v, .func (.func g) #[] lb] w fun e w' => e = .returned (.int .i64 (findIx p l)) ∧ Below w.heap.size w w' := by
  obtain ⟨A, n, c, rfl, H, hc, hm⟩ := h.form
  unfold Sl.val at hp
  have HP := Lib.hid hp
  clear hp
  go_enter Tryz.func62, Tryz.ntmps62
  go_wp2_with fail
  go_loopw [8] (fun i wr => ∃ k : Nat, k ≤ n ∧ i = .int .i64 k ∧ Below w.heap.size w wr ∧ (l.take k).any p = false) (fun i _ => n - (intOf i).toNat)
  case atStart => exact ⟨0, Nat.zero_le _, rfl, Below.refl _ _, by simp⟩
  case round =>
    obtain ⟨k, hk, rfl, hb, he⟩ := hrel
    have HE := Lib.hid he
    clear he
    by_cases hlt : k < n
    · obtain ⟨b, off, x, rfl, hx, _, _, f0, f1, f2⟩ := Sl.get h hlt hb hh
      have c1 := HP.out x wr (List.mem_of_getElem? hx.out) hb
      cases hq : p x
      · rw [hq] at c1
        have HF := Lib.hid hq
        clear hq
        go_wp2_with fail
        refine c1.mono ?_; rintro e w1 ⟨rfl, hb1⟩
        go_wp2_with fail
        go_roundw
        case rel => exact ⟨k + 1, by omega, by go_num, hb.trans (hb1.mono hb.size), by rw [List.take_add_one, List.any_append, HE.out, hx.out]; simp [HF.out]⟩
        case measure => simp [intOf]; omega
      · rw [hq] at c1
        have HF := Lib.hid (findIx_hit HE.out hx.out hq)
        clear hq
        go_wp2_with fail
        refine c1.mono ?_; rintro e w1 ⟨rfl, hb1⟩
        go_wp2_with fail
        go_ret
        exact ⟨ret_int HF.out.symm, hb.trans (hb1.mono hb.size)⟩
    · go_wp2_with fail
      go_ret
      have he := HE.out
      rw [List.take_of_length_le (by rw [← H.out]; omega)] at he
      exact ⟨ret_int (by simp [findIx, he]), hb⟩


theorem Sl.one (y : Sl) (u : Value) (h : u ∈ Sl.cells y) : u.oneCell' = true := by
  simp only [Sl.cells, List.mem_cons, List.not_mem_nil, or_false] at h
  rcases h with rfl | rfl | rfl <;> rfl
theorem Sl.app_rd {w : World} {ops : Array Oper} {rest : List Oper} {o : Oper} {a : Act} {Q : Exit → Act → World → Prop} (hgd : o.guard = none) (s x : Operand)
    (ho : o.op = .call { callee := .builtin .append, args := #[s, x], argTypes := #[24, 24] }) (base : Nat)
    (v : Value) (n : Nat) (xs : List Value) (hs : a.eval s = v) (hown : w.ownsRow base 34 3 v n xs) {lo hi m c : Nat} {A : Option Addr} {l : List Sl} (hx : a.eval x = .slice A m c) (hr : Rd Sl.cells 3 w lo hi (.slice A m c) l)
    (hlen : n + m ≤ 4194304) (hbase : base ≤ w.heap.size)
    (h : ∀ v' w', w'.ownsRow base 34 3 v' (n + m) (xs ++ l.flatMap Sl.cells) → w.grownBy w' v.ownBlock → wpList Tryz.prog ops Q rest (a.put o.dst v') w') : wpList Tryz.prog ops Q (o :: rest) a w := by
  obtain ⟨i0, hi0, hz0, hz1, hz2⟩ := info_parts Sl.info
  exact wp_app_rd hgd s x _ ho base _ i0 _ 3 _ Tryz.underlying24 hi0 hz0 hz1 hz2 rfl (by omega) Sl.cells_len Sl.one v n xs hs hown hx hr (by unfold maxLen; omega) (by omega) hbase h
theorem Sl.app_one {w : World} {ops : Array Oper} {rest : List Oper} {o : Oper} {a : Act} {Q : Exit → Act → World → Prop} (hgd : o.guard = none) (s x : Operand)
    (ho : o.op = .call { callee := .builtin .append, args := #[s, x], argTypes := #[24, 24] }) (base : Nat)
    (v : Value) (n : Nat) (xs : List Value) (hs : a.eval s = v) (hown : w.ownsRow base 34 3 v n xs) {g c : Nat} (y : Sl) (hx : a.eval x = .slice (some ⟨g, 0, none⟩) 1 c) (hr : ∀ j u, (Sl.cells y)[j]? = some u → w.cell? ⟨g, j, none⟩ = some u)
    (hlen : n ≤ 4194304) (hbase : base ≤ w.heap.size)
    (h : ∀ v' w', w'.ownsRow base 34 3 v' (n + 1) (xs ++ Sl.cells y) → w.grownBy w' v.ownBlock → wpList Tryz.prog ops Q rest (a.put o.dst v') w') : wpList Tryz.prog ops Q (o :: rest) a w := by
  obtain ⟨i0, hi0, hz0, hz1, hz2⟩ := info_parts Sl.info
  exact wpList_append_own w hgd s x _ ho base _ i0 _ 3 _ Tryz.underlying24 hi0 hz0 hz1 hz2 rfl (by omega) v n xs hs hown ⟨g, 0, none⟩ 1 c (Sl.cells y) hx (by rw [Sl.cells_len]) (fun j u hu => by rw [Go.WideShapes.add_plain, Nat.zero_add]; exact hr j u hu) (Sl.one y) (by unfold maxLen; omega) (by omega) hbase
    fun v' w' h1 h2 _ => h v' w' h1 h2

end Go.Proofs.YtaggjadgbmmjoaaGreatDoor

/- A region that draws its order, all of whose operations but the last ones only read old memory or call functions that lay new blocks at most: it is walked once, in the order of the text. No condition. -/
namespace Go.Proofs.YtaggjadgbmmjoaaGreatDoor
open Go.RowKit Go.ChangeShapes Go.WideShapes Go.Deep

/-- how far a world is from another one: its count of draws, and the new blocks -/
structure Ex where
  d : Nat
  os : Array Obj
  deriving Inhabited
def ext (w : World) (p : Ex) : World := { w with heap := w.heap ++ p.os, drawn := p.d }
theorem ext_of_below {w w' : World} (h : Below w.heap.size w w') : ∃ p, w' = ext w p := by
  refine ⟨⟨w'.drawn, w'.heap.extract w.heap.size w'.heap.size⟩, ?_⟩
  obtain ⟨heap, tape, drawn, os, output⟩ := w'
  obtain ⟨h1, h2, h3, h4, h5⟩ := h
  simp only at h1 h2 h3 h4 h5
  subst h1; subst h2; subst h3
  unfold ext
  congr 1
  apply Array.ext_getElem?
  intro k
  rw [Array.getElem?_append]
  split
  · rename_i hk; exact h5 k hk
  · rename_i hk
    rw [Array.getElem?_extract]
    split
    · congr 1; omega
    · rename_i hk2
      have : heap.size ≤ k := by
        rw [Nat.min_self] at hk2
        change ¬ k - w.heap.size < heap.size - w.heap.size at hk2
        omega
      exact Array.getElem?_eq_none this
theorem below_ext (w : World) (p : Ex) : Below w.heap.size w (ext w p) :=
  ⟨rfl, rfl, rfl, by simp [ext], fun k hk => by simp [ext, Array.getElem?_append, hk]⟩
theorem cell_ext {w : World} {b o : Nat} {v : Value} (h : w.cell? ⟨b, o, none⟩ = some v) : ∀ p, (ext w p).cell? ⟨b, o, none⟩ = some v :=
  fun p => ((below_ext w p).cell (p := ⟨b, o, none⟩) (World.block_lt_of_cell? w _ h)).trans h
/-- a callee's contract, met in a world of the class -/
theorem calls_ext {P : Program} {f : FuncId} {args : Array Value} {w : World} {p : Ex} {v : Value} (h : Calls P f args (ext w p) fun e w' => e = .returned v ∧ Below (ext w p).heap.size (ext w p) w') :
    Calls P f args (ext w p) fun e w'' => e = .returned v ∧ ∃ q, w'' = ext w q :=
  h.mono fun _ _ ⟨he, hb⟩ => ⟨he, ext_of_below ((below_ext w p).trans (hb.mono (below_ext w p).size))⟩
theorem calls_ext0 {P : Program} {f : FuncId} {args : Array Value} {w : World} {p : Ex} {v : Value} (h : Calls P f args (ext w p) fun e w' => e = .returned v ∧ ext w p = w') :
    Calls P f args (ext w p) fun e w'' => e = .returned v ∧ ∃ q, w'' = ext w q :=
  h.mono fun _ _ ⟨he, hb⟩ => ⟨he, p, hb.symm⟩

section
variable {P : Program} {ops : Array Oper} {md : Region.Mode} {C : World → Prop}
def anyC (P : Program) (md : Region.Mode) (ops : Array Oper) (C : World → Prop) (n : Nat) (L : Array Bool → Act → Prop) : Nat → Array Bool → Act → Prop
  | 0, listed, a => L listed a
  | f + 1, listed, a =>
    Region.ready md ops listed ≠ [] ∧ ∀ i ∈ Region.ready md ops listed, i < n ∧ qOp P ops C i (anyC P md ops C n L f (listed.setIfInBounds i true)) a

theorem any_of_headC {n g : Nat} {L : Array Bool → Act → Prop} {Q' : Exit → Act → World → Prop} (hL : ∀ listed a w, C w → L listed a → wpAny P md ops Q' g listed a w) :
    ∀ (f : Nat) (listed : Array Bool) (a : Act) (w : World), C w → anyC P md ops C n L f listed a → wpAny P md ops Q' (f + g) listed a w
  | 0, listed, a, w, hw, h => by rw [Nat.zero_add]; exact hL _ _ _ hw h
  | f + 1, listed, a, w, hw, h => by
    rw [show f + 1 + g = (f + g) + 1 by omega]
    exact ⟨fun h0 => absurd h0 h.1, fun i hi => wpOp_of_qOp hw (fun a' w' hw' h' => any_of_headC hL f _ a' w' hw' h') (h.2 i hi).2⟩

theorem anyC_first {n i : Nat} {oi : Oper} {v : Value} {L : Array Bool → Act → Prop} (hi : ops[i]? = some oi) (hsel : ∀ (j : Nat) (o : Oper) cs b, ops[j]? = some o → o.op ≠ .select cs b)
    (hs : Region.sinkB md ops n = true) (hc : Region.chainB md ops n = true) (hn : n < ops.size) (hin : i < n)
    (hdone : ∀ listed a, L listed a → ∀ j ∈ Region.ready md ops listed, n ≤ j) :
    ∀ (f : Nat) (listed : Array Bool) (a : Act), HeadInv md ops n listed →
      (∀ j oj, ops[j]? = some oj → j ≠ i → listed.getD j true = false → (∀ e ∈ oj.after, Region.binds md e = true → e.on ≠ i) → oi.apart ops oj = true) →
      i ∈ Region.ready md ops listed → YieldsIn P ops C oi v a →
      anyC P md ops C n L f (listed.setIfInBounds i true) (a.put oi.dst v) → anyC P md ops C n L (f + 1) listed a := by
  intro f
  induction f with
  | zero =>
    intro listed a inv _ hr hy H
    have hun := (mem_ready.1 hr).1
    refine ⟨fun h => (by rw [h] at hr; cases hr), fun j hj => ?_⟩
    have hjn : j < n := by
      rcases Nat.lt_or_ge j n with h | h
      · exact h
      · exact absurd hj (tail_waits hs hc hn inv _ i rfl hin hun j h)
    refine ⟨hjn, ?_⟩
    by_cases hji : j = i
    · subst hji; exact hy.qOp hi H
    · have := hdone _ _ H j (ready_mono hj hji)
      omega
  | succ f ih =>
    intro listed a inv hfree hr hy H
    have hun := (mem_ready.1 hr).1
    refine ⟨fun h => (by rw [h] at hr; cases hr), fun j hj => ?_⟩
    have hjn : j < n := by
      rcases Nat.lt_or_ge j n with h | h
      · exact h
      · exact absurd hj (tail_waits hs hc hn inv _ i rfl hin hun j h)
    refine ⟨hjn, ?_⟩
    by_cases hji : j = i
    · subst hji; exact hy.qOp hi H
    · have h1 := (H.2 j (ready_mono hj hji)).2
      obtain ⟨hjun, oj, hoj, hall⟩ := mem_ready.1 hj
      have hnot : ∀ e ∈ oj.after, Region.binds md e = true → e.on ≠ i := fun e he hb heq => by
        have h1 := hall e he hb
        rw [heq, getD_both hun] at h1
        cases h1
      have h2 := qOp_put hoj (hfree j oj hoj hji hjun hnot) (fun cs b => hsel i oi cs b hi) (fun cs b => hsel j oj cs b hoj) hy h1
      have hfree' : ∀ k ok, ops[k]? = some ok → k ≠ i → (listed.setIfInBounds j true).getD k true = false →
          (∀ e ∈ ok.after, Region.binds md e = true → e.on ≠ i) → oi.apart ops ok = true := fun k ok hk hki hun hno => by
        refine hfree k ok hk hki ?_ hno
        by_cases hjk : j = k
        · subst hjk; exact hjun
        · rw [getD_set_ne true hjk] at hun; exact hun
      refine qOp_mono (fun a' h3 => ih (listed.setIfInBounds j true) a' (inv.set hj hjn) hfree' (ready_mono hr (Ne.symm hji)) h3.1 ?_) h2
      rw [Array.setIfInBounds_comm _ _ hji]
      exact h3.2

theorem anyC_lex {n g : Nat} {Lq : Act → Prop} (hsel : Region.noSelect ops = true) (hs : Region.sinkB md ops n = true) (hc : Region.chainB md ops n = true) (hn : n < ops.size) :
    ∀ (l : List Oper) (k : Nat) (listed : Array Bool) (a : Act), (∀ j, j < l.length → l[j]? = ops[k + j]?) → k + l.length = n → HeadInv md ops n listed →
    Region.lexHead md ops g l.length k listed = true → wpQuiet P ops C Lq l a →
    anyC P md ops C n (fun listed' a' => Region.seqB md ops g n listed' = true ∧ Lq a') l.length listed a
  | [], k, listed, a, _, hk, _, hB, h => by
    have : k = n := by simpa using hk
    subst this
    exact ⟨by simpa [Region.lexHead] using hB, h⟩
  | o :: l, k, listed, a, hl, hk, inv, hB, h => by
    have h0 : ops[k]? = some o := by simpa using (hl 0 (by simp)).symm
    simp only [List.length_cons, Region.lexHead, Bool.and_eq_true] at hB
    obtain ⟨⟨hr, hf⟩, hB'⟩ := hB
    have hkn : k < n := by simp only [List.length_cons] at hk; omega
    have hr' : k ∈ Region.ready md ops listed := by simpa using hr
    have hst : qOp P ops C k (wpQuiet P ops C Lq l) a := by unfold qOp; simp only [h0]; exact h
    obtain ⟨v, hy, hK⟩ := yieldsIn_of_qOp h0 hst
    exact anyC_first h0 (Region.noSelect_spec hsel) hs hc hn hkn (fun listed' a' hL => seqB_ready hL.1) l.length listed a inv (Region.free_spec h0 hf) hr' hy
      (anyC_lex hsel hs hc hn l (k + 1) _ _ (fun j hj => by have := hl (j + 1) (by simp; omega); simpa [Nat.add_assoc, Nat.add_comm 1 j] using this) (by simp only [List.length_cons] at hk; omega) (inv.set hr' hkn) hB' hK)
end

/-- the last operations (from the n-th on) come last, one behind the other; those ahead of them are quiet -/
theorem wp_region_ext {P : Program} {id : Nat} {Q : Exit → Act → World → Prop} {a : Act} {w : World} {l : List Oper} (n : Nat) (hm : P.follows .mixedOrders = true) (hB : Region.lexTailB .any l.toArray n = true)
    (h : wpQuiet P l.toArray (fun w' => ∃ p : Ex, w' = ext w p) (fun a' => ∀ w1, Below w.heap.size w w1 → wpList P l.toArray Q (l.drop n) a' w1) (l.take n) a) : (Code.region id l.toArray true).wp P Q a w := by
  simp only [Region.lexTailB, Bool.and_eq_true, decide_eq_true_eq] at hB
  obtain ⟨⟨⟨⟨hsel, hn⟩, hs⟩, hc⟩, hlex⟩ := hB
  have hn' : n < l.length := by simpa using hn
  have htl : (l.take n).length = n := by simp; omega
  have hdl : (l.drop n).length = l.toArray.size - n := by simp
  have inv0 : HeadInv .any l.toArray n (Array.replicate l.toArray.size false) :=
    ⟨by simp, fun j oj _ hl => (by rw [getD_replicate_false] at hl; cases hl), fun t _ ht => getD_in (by simpa using ht) (getD_replicate_false _ _)⟩
  have H := anyC_lex (md := .any) (g := l.toArray.size - n) hsel hs hc hn (l.take n) 0 _ a (fun j hj => by
    have hj' : j < n := by rw [htl] at hj; exact hj
    simp [hj']) (by simpa using htl) inv0 (by rw [htl]; exact hlex) h
  refine wp_region_any hm ?_
  have := any_of_headC (C := fun w' => ∃ p : Ex, w' = ext w p) (Q' := Q) (g := l.toArray.size - n) (fun listed a' w' hw' hL => by
    obtain ⟨p, rfl⟩ := hw'
    have := wpAny_of_seq (md := .any) (Q' := Q) (l.drop n) n listed a' (ext w p) (fun j => by simp [List.getElem?_drop]) (by rw [hdl]; exact hL.1) (hL.2 _ (below_ext w p))
    rwa [hdl] at this) _ _ _ { w with drawn := w.drawn + 1 } ⟨⟨w.drawn + 1, #[]⟩, by simp [ext]⟩ H
  rw [htl, show n + (l.toArray.size - n) = l.toArray.size by omega] at this
  exact this
/-- all operations are quiet -/
theorem wp_region_ext_all {P : Program} {id : Nat} {Q : Exit → Act → World → Prop} {a : Act} {w : World} {l : List Oper} (hm : P.follows .mixedOrders = true) (hB : Region.lexB .any l.toArray = true)
    (h : wpQuiet P l.toArray (fun w' => ∃ p : Ex, w' = ext w p) (fun a' => ∀ w1, Below w.heap.size w w1 → Q .normal a' w1) l a) : (Code.region id l.toArray true).wp P Q a w := by
  refine wp_region_quiet (C := fun w' => ∃ p : Ex, w' = ext w p) hm hB ⟨⟨w.drawn + 1, #[]⟩, by simp [ext]⟩ ?_
  have hmono : ∀ (l' : List Oper) (Q1 Q2 : Act → Prop) (a : Act), (∀ a, Q1 a → Q2 a) → wpQuiet P l.toArray (fun w' => ∃ p : Ex, w' = ext w p) Q1 l' a → wpQuiet P l.toArray (fun w' => ∃ p : Ex, w' = ext w p) Q2 l' a := by
    intro l'
    induction l' with
    | nil => intro Q1 Q2 a hq h; exact hq a h
    | cons o l' ih =>
      intro Q1 Q2 a hq h
      unfold wpQuiet at h ⊢
      split
      · rename_i hw; rw [if_pos hw] at h; exact Oper.quiet_mono (fun a => ih Q1 Q2 a hq) h
      · rename_i hw; rw [if_neg hw] at h; exact ih Q1 Q2 _ hq h
  exact hmono _ _ _ _ (fun a' h' w' hw' => by obtain ⟨p, rfl⟩ := hw'; exact h' _ (below_ext w p)) h

end Go.Proofs.YtaggjadgbmmjoaaGreatDoor

/- Slots: finding one, and whether they are valid, in the program and in the reference. No condition. -/
namespace Go.Proofs.YtaggjadgbmmjoaaGreatDoor
open Go.RowKit Go.ChangeShapes Go.WideShapes Go.Deep

def Sl.has (i : Int) (s : Sl) : Bool := !(s.state == 0) && s.irq == i
def Sl.free (s : Sl) : Bool := s.state == 0
def Sl.okAt (l : List Sl) (i : Nat) (s : Sl) : Bool :=
  if s.state = 0 then s.irq == 0 && s.prio == 0 else inB s.state 1 3 && (inB s.irq 0 7 && (inB s.prio 0 15 && !(l.take i).any (Sl.has s.irq)))
def Sl.upTo (l : List Sl) : Nat → Bool
  | 0 => true
  | k + 1 => Sl.upTo l k && (match l[k]? with | some s => Sl.okAt l k s | none => true)
def Sl.good (l : List Sl) : Bool := decide ((l.length : Int) = 4) && Sl.upTo l l.length
theorem Sl.upTo_succ {l : List Sl} {k : Nat} {s : Sl} (h : l[k]? = some s) : Sl.upTo l (k + 1) = (Sl.upTo l k && Sl.okAt l k s) := by simp [Sl.upTo, h]
theorem Sl.upTo_mono {l : List Sl} : ∀ {k m : Nat}, k ≤ m → Sl.upTo l m = true → Sl.upTo l k = true
  | k, 0, h, h2 => by
    obtain rfl : k = 0 := by omega
    exact h2
  | k, m + 1, h, h2 => by
    rcases Nat.eq_or_lt_of_le h with rfl | h
    · exact h2
    · rw [Sl.upTo, Bool.and_eq_true] at h2
      exact Sl.upTo_mono (by omega) h2.1
theorem Sl.upTo_no {l : List Sl} {k : Nat} {s : Sl} (hk : k < l.length) (h : l[k]? = some s) (h2 : Sl.okAt l k s = false) : Sl.good l = false := by
  cases hq : Sl.upTo l l.length
  · simp [Sl.good, hq]
  · have := Sl.upTo_mono (show k + 1 ≤ l.length by omega) hq
    rw [Sl.upTo_succ h, h2] at this
    simp at this
theorem Sl.good_len {l : List Sl} (h : Sl.good l = true) : l.length = 4 := by
  simp only [Sl.good, Bool.and_eq_true, decide_eq_true_eq] at h; omega
theorem Sl.good_one {l : List Sl} (h : Sl.good l = true) {k : Nat} {s : Sl} (hs : l[k]? = some s) : Sl.okAt l k s = true := by
  simp only [Sl.good, Bool.and_eq_true] at h
  have hk := (List.getElem?_eq_some_iff.1 hs).1
  have := Sl.upTo_mono (show k + 1 ≤ l.length by omega) h.2
  rw [Sl.upTo_succ hs, Bool.and_eq_true] at this
  exact this.2
theorem Sl.find_at {l : List Sl} {k : Nat} {s : Sl} (hs : l[k]? = some s) (h0 : ¬ s.state = 0) : (findIx (Sl.has s.irq) l = k) ↔ (l.take k).any (Sl.has s.irq) = false := by
  have hp : Sl.has s.irq s = true := by simp [Sl.has, h0]
  constructor
  · intro h
    have ha : l.any (Sl.has s.irq) = true := List.any_eq_true.2 ⟨s, List.mem_of_getElem? hs, hp⟩
    obtain ⟨k', x, h1, _, _, _, h2⟩ := findIx_spec ha
    rw [h] at h1
    have : k = k' := by omega
    rw [this]; exact h2
  · intro h
    exact findIx_hit h hs hp

theorem l8Find_any (v : Value) (l : List Sl) (i : Int) (w : World) {lo hi : Nat} (h : Rd Sl.cells 3 w lo hi v l) (hh : hi ≤ w.heap.size) : Calls Tryz.prog 59 #[v, .int .i64 i] w fun e w' => e = .returned (.int .i64 (findIx (Sl.has i) l)) ∧ w = w' := by
  obtain ⟨A, n, c, rfl, H, hc, hm⟩ := h.form
  go_enter Tryz.func59, Tryz.ntmps59
  go_wp2_with fail
  go_loop [5] (fun j => ∃ k : Nat, k ≤ n ∧ j = .int .i64 k ∧ (l.take k).any (Sl.has i) = false) (fun j => n - (intOf j).toNat)
  case atStart => exact ⟨0, Nat.zero_le _, rfl, by simp⟩
  case round =>
    obtain ⟨k, hk, rfl, he⟩ := hrel
    have HE := Lib.hid he
    clear he
    by_cases hlt : k < n
    · obtain ⟨b, off, s, rfl, hs, _, _, f0, f1, f2⟩ := Sl.get h hlt (Below.refl w.heap.size w) hh
      have HN := Lib.hid (fun (hq : Sl.has i s = false) => show (l.take (k + 1)).any (Sl.has i) = false from by rw [List.take_add_one, List.any_append, HE.out, hs.out]; simp [hq])
      by_cases h1 : s.state = 0
      · have HF := Lib.hid (HN.out (by simp [Sl.has, h1]))
        rw [h1] at f0
        clear h1
        go_wp2_with fail
        go_round
        case rel => exact ⟨k + 1, by omega, by go_num, HF.out⟩
        case measure => simp [intOf]; omega
      · by_cases h2 : s.irq = i
        · have HF := Lib.hid (findIx_hit HE.out hs.out (show Sl.has i s = true from by simp [Sl.has, h1, h2]))
          go_wp2_with fail
          go_ret
          exact ⟨ret_int HF.out.symm, rfl⟩
        · have HF := Lib.hid (HN.out (by simp [Sl.has, h2]))
          go_wp2_with fail
          go_round
          case rel => exact ⟨k + 1, by omega, by go_num, HF.out⟩
          case measure => simp [intOf]; omega
    · go_wp2_with fail
      go_ret
      have he := HE.out
      rw [List.take_of_length_le (by rw [← H.out]; omega)] at he
      exact ⟨ret_int (by simp [findIx, he]), rfl⟩
theorem l8Free_any (v : Value) (l : List Sl) (w : World) {lo hi : Nat} (h : Rd Sl.cells 3 w lo hi v l) (hh : hi ≤ w.heap.size) : Calls Tryz.prog 61 #[v] w fun e w' => e = .returned (.int .i64 (findIx Sl.free l)) ∧ w = w' := by
  obtain ⟨A, n, c, rfl, H, hc, hm⟩ := h.form
  go_enter Tryz.func61, Tryz.ntmps61
  go_wp2_with fail
  go_loop [3] (fun j => ∃ k : Nat, k ≤ n ∧ j = .int .i64 k ∧ (l.take k).any Sl.free = false) (fun j => n - (intOf j).toNat)
  case atStart => exact ⟨0, Nat.zero_le _, rfl, by simp⟩
  case round =>
    obtain ⟨k, hk, rfl, he⟩ := hrel
    have HE := Lib.hid he
    clear he
    by_cases hlt : k < n
    · obtain ⟨b, off, s, rfl, hs, _, _, f0, f1, f2⟩ := Sl.get h hlt (Below.refl w.heap.size w) hh
      by_cases h1 : s.state = 0
      · have HF := Lib.hid (findIx_hit HE.out hs.out (show Sl.free s = true from by simp [Sl.free, h1]))
        rw [h1] at f0
        clear h1
        go_wp2_with fail
        go_ret
        exact ⟨ret_int HF.out.symm, rfl⟩
      · have HF := Lib.hid (show (l.take (k + 1)).any Sl.free = false from by rw [List.take_add_one, List.any_append, HE.out, hs.out]; simp [Sl.free, h1])
        go_wp2_with fail
        go_round
        case rel => exact ⟨k + 1, by omega, by go_num, HF.out⟩
        case measure => simp [intOf]; omega
    · go_wp2_with fail
      go_ret
      have he := HE.out
      rw [List.take_of_length_le (by rw [← H.out]; omega)] at he
      exact ⟨ret_int (by simp [findIx, he]), rfl⟩
theorem findClo_any (i : Int) (w : World) {B : Nat} (hB : w.cell? ⟨B, 0, none⟩ = some (.int .i64 i)) (hz : B < w.heap.size) (s : Sl) (W : World) (hb : Below w.heap.size w W) :
    Calls Tryz.prog 63 (#[s.val] ++ #[.pointer (some ⟨B, 0, none⟩)]) W fun e w' => e = .returned (.bool (Sl.has i s)) ∧ Below W.heap.size W w' := by
  rw [← hb.cell (p := ⟨B, 0, none⟩) hz] at hB
  have hBz : B < W.heap.size := Nat.lt_of_lt_of_le hz hb.size
  clear hb hz
  unfold Sl.val
  by_cases h1 : s.state = 0
  · rw [h1]
    have HF := Lib.hid (show Sl.has i s = false from by simp [Sl.has, h1])
    go_enter Tryz.func63, Tryz.ntmps63
    go_wp2
    go_ret
    exact ⟨ret_bool HF.out.symm, by go_grown⟩
  · by_cases h2 : s.irq = i
    · have HF := Lib.hid (show Sl.has i s = true from by simp [Sl.has, h1, h2])
      rw [h2]
      clear h2
      go_enter Tryz.func63, Tryz.ntmps63
      go_wp2
      go_ret
      exact ⟨ret_bool HF.out.symm, by go_grown⟩
    · have HF := Lib.hid (show Sl.has i s = false from by simp [Sl.has, h2])
      go_enter Tryz.func63, Tryz.ntmps63
      go_wp2
      go_ret
      exact ⟨ret_bool (by rw [HF.out]; simp [h2]), by go_grown⟩

theorem findSlot_any (v : Value) (l : List Sl) (i : Int) (w : World) {lo hi : Nat} (h : Rd Sl.cells 3 w lo hi v l) (hh : hi ≤ w.heap.size) : Calls Tryz.prog 36 #[v, .int .i64 i] w fun e w' => e = .returned (.int .i64 (findIx (Sl.has i) l)) ∧ Below w.heap.size w w' := by
  have b0 := (Below.refl w.heap.size w).alloc (Nat.le_refl _) (.cells #[.int .i64 i] 3)
  have k0 : (w.alloc (.cells #[.int .i64 i] 3)).cell? ⟨w.heap.size, 0, none⟩ = some (.int .i64 i) := by simp
  have z0 : (w.alloc (.cells #[.int .i64 i] 3)).heap.size = w.heap.size + 1 := by simp
  have hrd := h.below b0 hh
  have c1 := Sl.index_any 63 #[.pointer (some ⟨w.heap.size, 0, none⟩)] (Sl.has i) v l _ hrd (by omega) (enters Tryz.func63 (by kernel_rfl) rfl) (fun t W _ hW => findClo_any i _ k0 (by omega) t W hW)
  obtain ⟨A, n, c, rfl, H, hc, hm⟩ := h.form
  go_enter Tryz.func36, Tryz.ntmps36
  go_wp2_with fail
  refine c1.mono ?_; rintro e w1 ⟨rfl, b1⟩
  go_wp2_with fail
  go_ret
  exact ⟨rfl, b0.trans (b1.mono (by omega))⟩
theorem freeClo_any (s : Sl) (w : World) : Calls Tryz.prog 76 #[s.val] w fun e w' => e = .returned (.bool (Sl.free s)) ∧ Below w.heap.size w w' := by
  unfold Sl.val
  by_cases h1 : s.state = 0
  · rw [h1]
    have HF := Lib.hid (show Sl.free s = true from by simp [Sl.free, h1])
    go_enter Tryz.func76, Tryz.ntmps76
    go_wp2
    go_ret
    exact ⟨ret_bool HF.out.symm, by go_grown⟩
  · have HF := Lib.hid (show Sl.free s = false from by simp [Sl.free, h1])
    go_enter Tryz.func76, Tryz.ntmps76
    go_wp2
    go_ret
    exact ⟨ret_bool (by rw [HF.out]; simp [h1]), by go_grown⟩
theorem firstEmpty_any (v : Value) (l : List Sl) (w : World) {lo hi : Nat} (h : Rd Sl.cells 3 w lo hi v l) (hh : hi ≤ w.heap.size) : Calls Tryz.prog 58 #[v] w fun e w' => e = .returned (.int .i64 (findIx Sl.free l)) ∧ Below w.heap.size w w' := by
  have c1 := Sl.index_any 76 #[] Sl.free v l w h hh (enters Tryz.func76 (by kernel_rfl) rfl) (fun t W _ _ => freeClo_any t W)
  obtain ⟨A, n, c, rfl, H, hc, hm⟩ := h.form
  go_enter Tryz.func58, Tryz.ntmps58
  go_wp2_with fail
  refine c1.mono ?_; rintro e w1 ⟨rfl, b1⟩
  go_wp2_with fail
  go_ret
  exact ⟨rfl, b1⟩

end Go.Proofs.YtaggjadgbmmjoaaGreatDoor

/- Whether slots are valid, in the program and in the reference. No condition. -/
namespace Go.Proofs.YtaggjadgbmmjoaaGreatDoor
open Go.RowKit Go.ChangeShapes Go.WideShapes Go.Deep

theorem inB03 {x : Int} (h : inB x 0 3 = true) (h0 : ¬ x = 0) : inB x 1 3 = true := by rw [inB_iff] at *; omega
theorem inB13 {x : Int} (h : inB x 1 3 = true) : inB x 0 3 = true := by rw [inB_iff] at *; omega

set_option maxHeartbeats 1000000 in
theorem l8Good_any (v : Value) (l : List Sl) (w : World) {lo hi : Nat} (h : Rd Sl.cells 3 w lo hi v l) (hh : hi ≤ w.heap.size) : Calls Tryz.prog 31 #[v] w fun e w' => e = .returned (.bool (Sl.good l)) ∧ Below w.heap.size w w' := by
  have hrd := h
  obtain ⟨A, n, c, rfl, H, hc, hm⟩ := h.form
  have c1 := fun x W => l1In_any x 0 3 W
  have c2 := fun x W => l6Irq_any x W
  have c3 := fun x W => l6Prio_any x W
  have c4 := fun x (W : World) (k : Below w.heap.size w W) => l8Find_any _ l x W (hrd.below k hh) (Nat.le_trans hh k.size)
  go_enter Tryz.func31, Tryz.ntmps31
  go_wp2_with fail
  go_loopw [3] (fun i wr => ∃ k : Nat, k ≤ n ∧ i = .int .i64 k ∧ Below w.heap.size w wr ∧ Sl.upTo l k = true) (fun i _ => n - (intOf i).toNat)
  case atStart => exact ⟨0, Nat.zero_le _, rfl, Below.refl _ _, rfl⟩
  case round =>
    obtain ⟨k, hk, rfl, hb, he⟩ := hrel
    have HE := Lib.hid he
    clear he
    have hbs := hb.size
    by_cases hlt : k < n
    · obtain ⟨b, off, s, rfl, hs, _, hbl, f0, f1, f2⟩ := Sl.get h hlt hb hh
      have hb2 := hb.alloc hb.size (.cells #[.int .i64 s.state, .int .i64 s.irq, .int .i64 s.prio] 34)
      have HN := Lib.hid (fun hq => Sl.upTo_no (l := l) (k := k) (s := s) (by rw [← H.out]; exact hlt) hs.out hq)
      have HY := Lib.hid (fun (hq : Sl.okAt l k s = true) => show Sl.upTo l (k + 1) = true from by rw [Sl.upTo_succ hs.out, HE.out, hq]; rfl)
      have HI := Lib.hid (fun (h0 : ¬ s.state = 0) => Sl.find_at hs.out h0)
      have c1 := c1 s.state
      have c2 := c2 s.irq
      have c3 := c3 s.prio
      have c4 := c4 s.irq
      cases h1 : inB s.state 0 3
      · have HF := Lib.hid (HN.out (by
          have h0 : ¬ s.state = 0 := fun e => by rw [e] at h1; simp [inB] at h1
          have : inB s.state 1 3 = false := by cases hq : inB s.state 1 3 with
            | false => rfl
            | true => rw [inB13 hq] at h1; cases h1
          simp [Sl.okAt, h0, this]))
        rw [h1] at c1
        clear h1
        go_wp2_with fail
        refine (c1 _).mono ?_; rintro q w' ⟨rfl, rfl⟩
        go_wp2_with fail
        go_ret
        exact ⟨ret_bool HF.out.symm, hb2⟩
      · cases h2 : inB s.irq 0 7
        · have HF := Lib.hid (HN.out (by
            by_cases h0 : s.state = 0
            · have : ¬ s.irq = 0 := fun e => by rw [e] at h2; simp [inB] at h2
              simp [Sl.okAt, h0, this]
            · simp [Sl.okAt, h0, h2]))
          rw [h1] at c1
          rw [h2] at c2
          clear h1 h2
          go_wp2_with fail
          refine (c1 _).mono ?_; rintro q w' ⟨rfl, rfl⟩
          go_wp2_with fail
          refine (c2 _).mono ?_; rintro q w' ⟨rfl, rfl⟩
          go_wp2_with fail
          go_ret
          exact ⟨ret_bool HF.out.symm, hb2⟩
        · cases h3 : inB s.prio 0 15
          · have HF := Lib.hid (HN.out (by
              by_cases h0 : s.state = 0
              · have : ¬ s.prio = 0 := fun e => by rw [e] at h3; simp [inB] at h3
                simp [Sl.okAt, h0, this]
              · simp [Sl.okAt, h0, h3]))
            rw [h1] at c1
            rw [h2] at c2
            rw [h3] at c3
            clear h1 h2 h3
            go_wp2_with fail
            refine (c1 _).mono ?_; rintro q w' ⟨rfl, rfl⟩
            go_wp2_with fail
            refine (c2 _).mono ?_; rintro q w' ⟨rfl, rfl⟩
            go_wp2_with fail
            refine (c3 _).mono ?_; rintro q w' ⟨rfl, rfl⟩
            go_wp2_with fail
            go_ret
            exact ⟨ret_bool HF.out.symm, hb2⟩
          · by_cases h0 : s.state = 0
            · by_cases hi0 : s.irq = 0
              · by_cases hp0 : s.prio = 0
                · have HF := Lib.hid (HY.out (by simp [Sl.okAt, h0, hi0, hp0]))
                  rw [h1] at c1
                  rw [h2] at c2
                  rw [h3] at c3
                  clear h1 h2 h3 c4 HI HN HY
                  rw [h0] at c1 f0
                  rw [hi0] at c2 f1
                  rw [hp0] at c3 f2
                  rw [h0, hi0, hp0] at hb2
                  clear h0 hi0 hp0
                  go_wp2_with fail
                  refine (c1 _).mono ?_; rintro q w' ⟨rfl, rfl⟩
                  go_wp2_with fail
                  refine (c2 _).mono ?_; rintro q w' ⟨rfl, rfl⟩
                  go_wp2_with fail
                  refine (c3 _).mono ?_; rintro q w' ⟨rfl, rfl⟩
                  go_wp2_with fail
                  go_roundw
                  case rel => exact ⟨k + 1, by omega, by go_num, hb2, HF.out⟩
                  case measure => simp [intOf]; omega
                · have HF := Lib.hid (HN.out (by simp [Sl.okAt, h0, hp0]))
                  rw [h1] at c1
                  rw [h2] at c2
                  rw [h3] at c3
                  clear h1 h2 h3 c4 HI HN HY
                  rw [h0] at c1 f0
                  rw [hi0] at c2 f1
                  rw [h0, hi0] at hb2
                  clear h0 hi0
                  go_wp2_with fail
                  refine (c1 _).mono ?_; rintro q w' ⟨rfl, rfl⟩
                  go_wp2_with fail
                  refine (c2 _).mono ?_; rintro q w' ⟨rfl, rfl⟩
                  go_wp2_with fail
                  refine (c3 _).mono ?_; rintro q w' ⟨rfl, rfl⟩
                  go_wp2_with fail
                  go_ret
                  exact ⟨ret_bool HF.out.symm, hb2⟩
              · have HF := Lib.hid (HN.out (by simp [Sl.okAt, h0, hi0]))
                rw [h1] at c1
                rw [h2] at c2
                rw [h3] at c3
                clear h1 h2 h3 c4 HI HN HY
                rw [h0] at c1 f0
                rw [h0] at hb2
                clear h0
                go_wp2_with fail
                refine (c1 _).mono ?_; rintro q w' ⟨rfl, rfl⟩
                go_wp2_with fail
                refine (c2 _).mono ?_; rintro q w' ⟨rfl, rfl⟩
                go_wp2_with fail
                refine (c3 _).mono ?_; rintro q w' ⟨rfl, rfl⟩
                go_wp2_with fail
                go_ret
                exact ⟨ret_bool HF.out.symm, hb2⟩
            · have HI2 := HI.out h0
              by_cases hf : findIx (Sl.has s.irq) l = k
              · have HF := Lib.hid (HY.out (by simp only [Sl.okAt, if_neg h0, inB03 h1 h0, h2, h3, HI2.1 hf]; rfl))
                rw [h1] at c1
                rw [h2] at c2
                rw [h3] at c3
                rw [hf] at c4
                clear h1 h2 h3 HI HN HY HI2 hf
                go_wp2_with fail
                refine (c1 _).mono ?_; rintro q w' ⟨rfl, rfl⟩
                go_wp2_with fail
                refine (c2 _).mono ?_; rintro q w' ⟨rfl, rfl⟩
                go_wp2_with fail
                refine (c3 _).mono ?_; rintro q w' ⟨rfl, rfl⟩
                go_wp2_with fail
                refine (c4 _ hb2).mono ?_; rintro q w' ⟨rfl, rfl⟩
                go_wp2_with fail
                go_roundw
                case rel => exact ⟨k + 1, by omega, by go_num, hb2, HF.out⟩
                case measure => simp [intOf]; omega
              · have HF := Lib.hid (HN.out (by
                  have : (l.take k).any (Sl.has s.irq) = true := by
                    cases hq : (l.take k).any (Sl.has s.irq) with
                    | true => rfl
                    | false => exact absurd (HI2.2 hq) hf
                  simp only [Sl.okAt, if_neg h0, this]; simp))
                generalize findIx (Sl.has s.irq) l = z at c4 hf
                rw [h1] at c1
                rw [h2] at c2
                rw [h3] at c3
                clear h1 h2 h3 HI HN HY HI2
                go_wp2_with fail
                refine (c1 _).mono ?_; rintro q w' ⟨rfl, rfl⟩
                go_wp2_with fail
                refine (c2 _).mono ?_; rintro q w' ⟨rfl, rfl⟩
                go_wp2_with fail
                refine (c3 _).mono ?_; rintro q w' ⟨rfl, rfl⟩
                go_wp2_with fail
                refine (c4 _ hb2).mono ?_; rintro q w' ⟨rfl, rfl⟩
                go_wp2_with fail
                go_ret
                exact ⟨ret_bool HF.out.symm, hb2⟩
    · have hn := H.out
      have hkn : k = n := by omega
      subst hkn
      have HF := Lib.hid (show Sl.good l = decide ((k : Int) = 4) from by simp only [Sl.good, ← hn, HE.out, Bool.and_true])
      clear hn
      go_wp2_with fail
      go_ret
      exact ⟨ret_bool HF.out.symm, hb⟩

end Go.Proofs.YtaggjadgbmmjoaaGreatDoor

/- Whether slots are valid, in the program. No condition. -/
namespace Go.Proofs.YtaggjadgbmmjoaaGreatDoor
open Go.RowKit Go.ChangeShapes Go.WideShapes Go.Deep

set_option maxHeartbeats 2000000 in
theorem implAreSlots_any (v : Value) (l : List Sl) (w : World) {lo hi : Nat} (h : Rd Sl.cells 3 w lo hi v l) (hh : hi ≤ w.heap.size) : Calls Tryz.prog 9 #[v] w fun e w' => e = .returned (.bool (Sl.good l)) ∧ Below w.heap.size w w' := by
  have hrd := h
  obtain ⟨A, n, c, rfl, H, hc, hm⟩ := h.form
  by_cases h4 : n = 4
  · have c1 := fun x W => inside_any x 1 3 W
    have c2 := fun x W => isIrq_any x W
    have c3 := fun x W => isPriority_any x W
    have hn4 : n ≤ 4 := by omega
    have HG := Lib.hid (show Sl.good l = Sl.upTo l l.length from by have := H.out; simp only [Sl.good]; rw [← this, h4]; simp)
    have h4' : (n : Int) = 4 := by omega
    have hd4 : ((n : Int) == 4) = true := by rw [h4']; rfl
    clear h4 h4'
    go_enter Tryz.func9, Tryz.ntmps9
    go_wp2_with fail
    go_loopw [10] (fun i wr => ∃ k : Nat, k ≤ n ∧ i = .int .i64 k ∧ Below w.heap.size w wr ∧ Sl.upTo l k = true) (fun i _ => n - (intOf i).toNat)
    case atStart => exact ⟨0, Nat.zero_le _, rfl, Below.refl _ _, rfl⟩
    case round =>
      obtain ⟨k, hk, rfl, hb, he⟩ := hrel
      have HE := Lib.hid he
      clear he
      have hbs := hb.size
      by_cases hlt : k < n
      · obtain ⟨b, off, s, rfl, hs, _, hbl, f0, f1, f2⟩ := Sl.get h hlt hb hh
        have hb2 := hb.alloc hb.size (.cells #[.int .i64 s.state, .int .i64 s.irq, .int .i64 s.prio] 34)
        have HN := Lib.hid (fun hq => Sl.upTo_no (l := l) (k := k) (s := s) (by rw [← H.out]; exact hlt) hs.out hq)
        have HY := Lib.hid (fun (hq : Sl.okAt l k s = true) => show Sl.upTo l (k + 1) = true from by rw [Sl.upTo_succ hs.out, HE.out, hq]; rfl)
        by_cases h0 : s.state = 0
        · by_cases hi0 : s.irq = 0
          · by_cases hp0 : s.prio = 0
            · have HF := Lib.hid (HY.out (by simp [Sl.okAt, h0, hi0, hp0]))
              rw [h0] at f0
              rw [hi0] at f1
              rw [hp0] at f2
              rw [h0, hi0, hp0] at hb2
              clear h0 hi0 hp0 HN HY
              go_wp2_with fail
              go_roundw
              case rel => exact ⟨k + 1, by omega, by go_num, hb2, HF.out⟩
              case measure => simp [intOf]; omega
            · have HF := Lib.hid (HN.out (by simp [Sl.okAt, h0, hp0]))
              rw [h0] at f0
              rw [hi0] at f1
              rw [h0, hi0] at hb2
              clear h0 hi0 HN HY
              go_wp2_with fail
              go_ret
              exact ⟨ret_bool (by rw [HG.out, ← HF.out, HG.out]), hb2⟩
          · have HF := Lib.hid (HN.out (by simp [Sl.okAt, h0, hi0]))
            rw [h0] at f0
            rw [h0] at hb2
            clear h0 HN HY
            go_wp2_with fail
            go_ret
            exact ⟨ret_bool (by rw [HG.out, ← HF.out, HG.out]), hb2⟩
        · have HI := Lib.hid (Sl.find_at hs.out h0)
          have c1 := c1 s.state
          have c2 := c2 s.irq
          have c3 := c3 s.prio
          have hkn : k ≤ n := by omega
          have hkc : k ≤ c := by omega
          cases h1 : inB s.state 1 3
          · have HF := Lib.hid (HN.out (by simp [Sl.okAt, h0, h1]))
            rw [h1] at c1
            clear h1 HN HY HI c2 c3
            go_wp2_with fail
            have k0 : (wr.alloc (.cells #[.int .i64 s.state, .int .i64 s.irq, .int .i64 s.prio] 34)).cell? ⟨wr.heap.size, 0, none⟩ = some (.int .i64 s.state) := by simp
            have k1 : (wr.alloc (.cells #[.int .i64 s.state, .int .i64 s.irq, .int .i64 s.prio] 34)).cell? ⟨wr.heap.size, 1, none⟩ = some (.int .i64 s.irq) := by simp
            have k2 : (wr.alloc (.cells #[.int .i64 s.state, .int .i64 s.irq, .int .i64 s.prio] 34)).cell? ⟨wr.heap.size, 2, none⟩ = some (.int .i64 s.prio) := by simp
            clear f0 f1 f2
            have hr2 := hrd.below hb2 hh
            have hh2 := Nat.le_trans hh hb2.size
            generalize wr.alloc _ = w2 at hb2 k0 k1 k2 hr2 hh2 ⊢
            have e0 := cell_ext k0; have e1 := cell_ext k1; have e2 := cell_ext k2
            have c4 := fun p => findSlot_any _ _ s.irq (ext w2 p) ((hr2.take_ hkn).below (below_ext w2 p) hh2) (Nat.le_trans hh2 (below_ext w2 p).size)
            refine wp_region_ext_all (by kernel_rfl) (by kernel_rfl) ?_
            repeat (go_big_quiet_step (first | (go_at_call 35; exact calls_ext0 ((c1 _).mono (fun _ _ h => ⟨h.1, h.2⟩))) | (go_at_call 36; exact calls_ext (c4 _))))
            refine wpQuiet_nil ?_
            intro w3 b3
            clear e0 e1 e2
            have hb3 := hb2.trans (b3.mono hb2.size)
            go_wp2_with fail
            go_ret
            exact ⟨ret_bool (by rw [HG.out, ← HF.out, HG.out]), hb3⟩
          · cases h2 : inB s.irq 0 7
            · have HF := Lib.hid (HN.out (by simp [Sl.okAt, h0, h2]))
              rw [h1] at c1
              rw [h2] at c2
              clear h1 h2 HN HY HI c3
              go_wp2_with fail
              have k0 : (wr.alloc (.cells #[.int .i64 s.state, .int .i64 s.irq, .int .i64 s.prio] 34)).cell? ⟨wr.heap.size, 0, none⟩ = some (.int .i64 s.state) := by simp
              have k1 : (wr.alloc (.cells #[.int .i64 s.state, .int .i64 s.irq, .int .i64 s.prio] 34)).cell? ⟨wr.heap.size, 1, none⟩ = some (.int .i64 s.irq) := by simp
              have k2 : (wr.alloc (.cells #[.int .i64 s.state, .int .i64 s.irq, .int .i64 s.prio] 34)).cell? ⟨wr.heap.size, 2, none⟩ = some (.int .i64 s.prio) := by simp
              clear f0 f1 f2
              have hr2 := hrd.below hb2 hh
              have hh2 := Nat.le_trans hh hb2.size
              generalize wr.alloc _ = w2 at hb2 k0 k1 k2 hr2 hh2 ⊢
              have e0 := cell_ext k0; have e1 := cell_ext k1; have e2 := cell_ext k2
              have c4 := fun p => findSlot_any _ _ s.irq (ext w2 p) ((hr2.take_ hkn).below (below_ext w2 p) hh2) (Nat.le_trans hh2 (below_ext w2 p).size)
              refine wp_region_ext_all (by kernel_rfl) (by kernel_rfl) ?_
              repeat (go_big_quiet_step (first | (go_at_call 35; exact calls_ext0 ((c1 _).mono (fun _ _ h => ⟨h.1, h.2⟩))) | (go_at_call 28; exact calls_ext0 (c2 _)) | (go_at_call 36; exact calls_ext (c4 _))))
              refine wpQuiet_nil ?_
              intro w3 b3
              clear e0 e1 e2
              have hb3 := hb2.trans (b3.mono hb2.size)
              go_wp2_with fail
              go_ret
              exact ⟨ret_bool (by rw [HG.out, ← HF.out, HG.out]), hb3⟩
            · cases h3 : inB s.prio 0 15
              · have HF := Lib.hid (HN.out (by simp [Sl.okAt, h0, h3]))
                rw [h1] at c1
                rw [h2] at c2
                rw [h3] at c3
                clear h1 h2 h3 HN HY HI
                go_wp2_with fail
                have k0 : (wr.alloc (.cells #[.int .i64 s.state, .int .i64 s.irq, .int .i64 s.prio] 34)).cell? ⟨wr.heap.size, 0, none⟩ = some (.int .i64 s.state) := by simp
                have k1 : (wr.alloc (.cells #[.int .i64 s.state, .int .i64 s.irq, .int .i64 s.prio] 34)).cell? ⟨wr.heap.size, 1, none⟩ = some (.int .i64 s.irq) := by simp
                have k2 : (wr.alloc (.cells #[.int .i64 s.state, .int .i64 s.irq, .int .i64 s.prio] 34)).cell? ⟨wr.heap.size, 2, none⟩ = some (.int .i64 s.prio) := by simp
                clear f0 f1 f2
                have hr2 := hrd.below hb2 hh
                have hh2 := Nat.le_trans hh hb2.size
                generalize wr.alloc _ = w2 at hb2 k0 k1 k2 hr2 hh2 ⊢
                have e0 := cell_ext k0; have e1 := cell_ext k1; have e2 := cell_ext k2
                have c4 := fun p => findSlot_any _ _ s.irq (ext w2 p) ((hr2.take_ hkn).below (below_ext w2 p) hh2) (Nat.le_trans hh2 (below_ext w2 p).size)
                refine wp_region_ext_all (by kernel_rfl) (by kernel_rfl) ?_
                repeat (go_big_quiet_step (first | (go_at_call 35; exact calls_ext0 ((c1 _).mono (fun _ _ h => ⟨h.1, h.2⟩))) | (go_at_call 28; exact calls_ext0 (c2 _)) | (go_at_call 29; exact calls_ext0 (c3 _)) | (go_at_call 36; exact calls_ext (c4 _))))
                refine wpQuiet_nil ?_
                intro w3 b3
                clear e0 e1 e2
                have hb3 := hb2.trans (b3.mono hb2.size)
                go_wp2_with fail
                go_ret
                exact ⟨ret_bool (by rw [HG.out, ← HF.out, HG.out]), hb3⟩
              · cases hq : (l.take k).any (Sl.has s.irq)
                · have HF := Lib.hid (HY.out (by simp only [Sl.okAt, if_neg h0, h1, h2, h3, hq]; rfl))
                  rw [h1] at c1
                  rw [h2] at c2
                  rw [h3] at c3
                  have hz0 : decide ((0 : Int) ≤ findIx (Sl.has s.irq) (l.take k)) = false := by rw [findIx_nonneg, hq]
                  clear h1 h2 h3 hq HN HY HI
                  go_wp2_with fail
                  have k0 : (wr.alloc (.cells #[.int .i64 s.state, .int .i64 s.irq, .int .i64 s.prio] 34)).cell? ⟨wr.heap.size, 0, none⟩ = some (.int .i64 s.state) := by simp
                  have k1 : (wr.alloc (.cells #[.int .i64 s.state, .int .i64 s.irq, .int .i64 s.prio] 34)).cell? ⟨wr.heap.size, 1, none⟩ = some (.int .i64 s.irq) := by simp
                  have k2 : (wr.alloc (.cells #[.int .i64 s.state, .int .i64 s.irq, .int .i64 s.prio] 34)).cell? ⟨wr.heap.size, 2, none⟩ = some (.int .i64 s.prio) := by simp
                  clear f0 f1 f2
                  have hr2 := hrd.below hb2 hh
                  have hh2 := Nat.le_trans hh hb2.size
                  generalize wr.alloc _ = w2 at hb2 k0 k1 k2 hr2 hh2 ⊢
                  have e0 := cell_ext k0; have e1 := cell_ext k1; have e2 := cell_ext k2
                  have c4 := fun p => findSlot_any _ _ s.irq (ext w2 p) ((hr2.take_ hkn).below (below_ext w2 p) hh2) (Nat.le_trans hh2 (below_ext w2 p).size)
                  generalize findIx (Sl.has s.irq) (l.take k) = z at c4 hz0
                  refine wp_region_ext_all (by kernel_rfl) (by kernel_rfl) ?_
                  repeat (go_big_quiet_step (first | (go_at_call 35; exact calls_ext0 ((c1 _).mono (fun _ _ h => ⟨h.1, h.2⟩))) | (go_at_call 28; exact calls_ext0 (c2 _)) | (go_at_call 29; exact calls_ext0 (c3 _)) | (go_at_call 36; exact calls_ext (c4 _))))
                  refine wpQuiet_nil ?_
                  intro w3 b3
                  clear e0 e1 e2
                  have hb3 := hb2.trans (b3.mono hb2.size)
                  go_wp2_with fail
                  go_roundw
                  case rel => exact ⟨k + 1, by omega, by go_num, hb3, HF.out⟩
                  case measure => simp [intOf]; omega
                · have HF := Lib.hid (HN.out (by simp only [Sl.okAt, if_neg h0, hq]; simp))
                  rw [h1] at c1
                  rw [h2] at c2
                  rw [h3] at c3
                  have hz0 : decide ((0 : Int) ≤ findIx (Sl.has s.irq) (l.take k)) = true := by rw [findIx_nonneg, hq]
                  clear h1 h2 h3 hq HN HY HI
                  go_wp2_with fail
                  have k0 : (wr.alloc (.cells #[.int .i64 s.state, .int .i64 s.irq, .int .i64 s.prio] 34)).cell? ⟨wr.heap.size, 0, none⟩ = some (.int .i64 s.state) := by simp
                  have k1 : (wr.alloc (.cells #[.int .i64 s.state, .int .i64 s.irq, .int .i64 s.prio] 34)).cell? ⟨wr.heap.size, 1, none⟩ = some (.int .i64 s.irq) := by simp
                  have k2 : (wr.alloc (.cells #[.int .i64 s.state, .int .i64 s.irq, .int .i64 s.prio] 34)).cell? ⟨wr.heap.size, 2, none⟩ = some (.int .i64 s.prio) := by simp
                  clear f0 f1 f2
                  have hr2 := hrd.below hb2 hh
                  have hh2 := Nat.le_trans hh hb2.size
                  generalize wr.alloc _ = w2 at hb2 k0 k1 k2 hr2 hh2 ⊢
                  have e0 := cell_ext k0; have e1 := cell_ext k1; have e2 := cell_ext k2
                  have c4 := fun p => findSlot_any _ _ s.irq (ext w2 p) ((hr2.take_ hkn).below (below_ext w2 p) hh2) (Nat.le_trans hh2 (below_ext w2 p).size)
                  generalize findIx (Sl.has s.irq) (l.take k) = z at c4 hz0
                  refine wp_region_ext_all (by kernel_rfl) (by kernel_rfl) ?_
                  repeat (go_big_quiet_step (first | (go_at_call 35; exact calls_ext0 ((c1 _).mono (fun _ _ h => ⟨h.1, h.2⟩))) | (go_at_call 28; exact calls_ext0 (c2 _)) | (go_at_call 29; exact calls_ext0 (c3 _)) | (go_at_call 36; exact calls_ext (c4 _))))
                  refine wpQuiet_nil ?_
                  intro w3 b3
                  clear e0 e1 e2
                  have hb3 := hb2.trans (b3.mono hb2.size)
                  go_wp2_with fail
                  go_ret
                  exact ⟨ret_bool (by rw [HG.out, ← HF.out, HG.out]), hb3⟩
      · have hkl : l.length ≤ k := by rw [← H.out]; omega
        have HF := Lib.hid (show Sl.good l = true from by rw [HG.out]; exact Sl.upTo_mono (by rw [← H.out]; omega) HE.out)
        go_wp2_with fail
        go_ret
        exact ⟨ret_bool HF.out.symm, hb⟩
  · have HF := Lib.hid (show Sl.good l = false from by have := H.out; simp only [Sl.good, Bool.and_eq_false_iff, decide_eq_false_iff_not]; left; omega)
    have h4' : ¬ (n : Int) = 4 := by omega
    go_enter Tryz.func9, Tryz.ntmps9
    go_wp2_with fail
    go_ret
    exact ⟨ret_bool HF.out.symm, Below.refl _ _⟩

end Go.Proofs.YtaggjadgbmmjoaaGreatDoor

/- Putting an interrupt into a slot and ending one, in the program and in the reference: the inner functions. Conditions: at most 1048576 slots; for ending: valid slots. -/
namespace Go.Proofs.YtaggjadgbmmjoaaGreatDoor
open Go.RowKit Go.ChangeShapes Go.WideShapes Go.Deep

theorem find_cases {α : Type} (p : α → Bool) (l : List α) : (findIx p l = -1 ∧ l.any p = false) ∨ ∃ (k : Nat) (s : α), findIx p l = k ∧ k < l.length ∧ l[k]? = some s ∧ p s = true := by
  cases h : l.any p
  · exact .inl ⟨by simp [findIx, h], rfl⟩
  · obtain ⟨k, x, h1, h2, h3, h4, _⟩ := findIx_spec h
    exact .inr ⟨k, x, h1, h2, h3, h4⟩
theorem Ow.lit0 {α : Type} {cells : α → List Value} {sz : Nat} {E : TypeId} {w : World} {lo hi : Nat} {A : Option Addr} : Ow cells sz E w lo hi (.slice A 0 0) [] :=
  ⟨A, 0, rfl, Nat.le_refl _, by unfold maxLen; omega, fun h => absurd h (by simp)⟩
def Sl.at_ (l : List Sl) (k : Int) : Sl := l.getD k.toNat default
theorem Sl.at_get {l : List Sl} {k : Nat} {s : Sl} (h : l[k]? = some s) : Sl.at_ l (k : Int) = s := by simp [Sl.at_, h]
def Sl.ix (l : List Sl) (i : Int) : Int := findIx (Sl.has i) l
def Sl.fx (l : List Sl) : Int := findIx Sl.free l
def Sl.both (s : Sl) : Sl := if s.state = 2 then ⟨3, s.irq, s.prio⟩ else s
def Sl.putOk (l : List Sl) (i : Int) : Bool := decide (0 ≤ Sl.ix l i) || decide (0 ≤ Sl.fx l)
def Sl.putR (l : List Sl) (i p : Int) : List Sl :=
  if 0 ≤ Sl.ix l i then l.set (Sl.ix l i).toNat (Sl.both (Sl.at_ l (Sl.ix l i))) else if 0 ≤ Sl.fx l then l.set (Sl.fx l).toNat ⟨1, i, p⟩ else []
theorem Sl.putR_len (l : List Sl) (i p : Int) (h : l.length ≤ 1048576) : (Sl.putR l i p).length ≤ 1048576 := by
  unfold Sl.putR; split
  · simp; exact h
  · split
    · simp; exact h
    · simp
theorem Sl.put_hit {l : List Sl} {i p : Int} {k : Nat} {s : Sl} (h : Sl.ix l i = k) (hs : l[k]? = some s) : Sl.putOk l i = true ∧ Sl.putR l i p = l.set k (Sl.both s) := by
  simp [Sl.putOk, Sl.putR, h, Sl.at_get hs]
theorem Sl.put_new {l : List Sl} {i p : Int} {k : Nat} (h : Sl.ix l i = -1) (hf : Sl.fx l = k) : Sl.putOk l i = true ∧ Sl.putR l i p = l.set k ⟨1, i, p⟩ := by
  simp [Sl.putOk, Sl.putR, h, hf]
theorem Sl.put_no {l : List Sl} {i p : Int} (h : Sl.ix l i = -1) (hf : Sl.fx l = -1) : Sl.putOk l i = false ∧ Sl.putR l i p = [] := by
  simp [Sl.putOk, Sl.putR, h, hf]
def Sl.ended (s : Sl) : Sl := if s.state = 2 then ⟨0, 0, 0⟩ else ⟨1, s.irq, s.prio⟩
def Sl.endOk (l : List Sl) (i : Int) : Bool := decide (0 ≤ Sl.ix l i) && !((Sl.at_ l (Sl.ix l i)).state == 1)
def Sl.endR (l : List Sl) (i : Int) : List Sl := if Sl.endOk l i then l.set (Sl.ix l i).toNat (Sl.ended (Sl.at_ l (Sl.ix l i))) else []
theorem Sl.endR_len (l : List Sl) (i : Int) (h : l.length ≤ 1048576) : (Sl.endR l i).length ≤ 1048576 := by
  unfold Sl.endR; split
  · simp; exact h
  · simp
theorem Sl.end_hit {l : List Sl} {i : Int} {k : Nat} {s : Sl} (h : Sl.ix l i = k) (hs : l[k]? = some s) (h1 : ¬ s.state = 1) : Sl.endOk l i = true ∧ Sl.endR l i = l.set k (Sl.ended s) := by
  have : Sl.endOk l i = true := by simp [Sl.endOk, h, Sl.at_get hs, h1]
  exact ⟨this, by simp [Sl.endR, this, h, Sl.at_get hs]⟩
theorem Sl.end_no1 {l : List Sl} {i : Int} {k : Nat} {s : Sl} (h : Sl.ix l i = k) (hs : l[k]? = some s) (h1 : s.state = 1) : Sl.endOk l i = false ∧ Sl.endR l i = [] := by
  have : Sl.endOk l i = false := by simp [Sl.endOk, h, Sl.at_get hs, h1]
  exact ⟨this, by simp [Sl.endR, this]⟩
theorem Sl.end_no {l : List Sl} {i : Int} (h : Sl.ix l i = -1) : Sl.endOk l i = false ∧ Sl.endR l i = [] := by
  have : Sl.endOk l i = false := by simp [Sl.endOk, h]
  exact ⟨this, by simp [Sl.endR, this]⟩
theorem Sl.has_st {l : List Sl} (hg : Sl.good l = true) {k : Nat} {s : Sl} {i : Int} (hs : l[k]? = some s) (hp : Sl.has i s = true) : s.irq = i ∧ (s.state = 1 ∨ s.state = 2 ∨ s.state = 3) := by
  simp only [Sl.has, Bool.and_eq_true, Bool.not_eq_true', beq_eq_false_iff_ne, beq_iff_eq] at hp
  have h := Sl.good_one hg hs
  simp only [Sl.okAt, if_neg hp.1, Bool.and_eq_true] at h
  have := inB_true h.1
  exact ⟨hp.2, by omega⟩

set_option maxHeartbeats 1000000 in
theorem specWith_any (v : Value) (l : List Sl) (k : Nat) (x : Sl) (w : World) {lo hi : Nat} (h : Rd Sl.cells 3 w lo hi v l) (hh : hi ≤ w.heap.size) (hk : k < l.length) (hlen : l.length ≤ 1048576) :
    Calls Tryz.prog 60 #[v, .int .i64 k, x.val] w fun e w' => ∃ v', e = .returned v' ∧ Ow Sl.cells 3 34 w' w.heap.size w'.heap.size v' (l.set k x) ∧ Below w.heap.size w w' := by
  have hrd := h
  obtain ⟨A, n, c, rfl, H, hc, hm⟩ := h.form
  rw [← H.out] at hk hlen
  have HT := Lib.hid (show l[k]? = some (l[k]'(by rw [← H.out]; exact hk)) from List.getElem?_eq_getElem _)
  generalize l[k]'(by rw [← H.out]; exact hk) = t at HT
  have b1 := (Below.refl w.heap.size w).alloc (Nat.le_refl _) (.cells #[.int .i64 x.state, .int .i64 x.irq, .int .i64 x.prio] 34)
  have bcells : ∀ j u, (#[.int .i64 x.state, .int .i64 x.irq, .int .i64 x.prio] : Array Value)[j]? = some u → (w.alloc (.cells #[.int .i64 x.state, .int .i64 x.irq, .int .i64 x.prio] 34)).cell? ⟨w.heap.size, j, none⟩ = some u := fun j u hu => cell_new w _ _ rfl hu
  have HB := Lib.hid bcells
  have z1 : (w.alloc (.cells #[.int .i64 x.state, .int .i64 x.irq, .int .i64 x.prio] 34)).heap.size = w.heap.size + 1 := by simp
  clear bcells h
  unfold Sl.val
  go_enter Tryz.func60, Tryz.ntmps60
  go_wp2_with (at_builtin; (refine Sl.app_rd rfl _ _ rfl w.heap.size (.slice (some ⟨w.heap.size + 1, 0, none⟩) 0 0) 0 [] rfl (own_empty_at (w.alloc (.cells #[.int .i64 x.state, .int .i64 x.irq, .int .i64 x.prio] 34)) (base := w.heap.size) (g := w.heap.size + 1) 34 3 z1.symm (by omega)) rfl ((hrd.below b1 hh).below ((Below.refl _ _).alloc (Nat.le_refl _) _) (by omega)) (by omega) (by simp; omega) ?_); (intro v2 w2 hown hg2); (obtain ⟨g2, cap, rfl, hgb, hgl⟩ := hown.form (by omega)); (have hfz := hown.frozenAt); (have ow := Ow.of_own Sl.cells_len hown (l := l) (by simp) (by rw [← H.out]; omega)); (rw [Nat.zero_add] at ow); (obtain ⟨_, _, t', e, ht', _, hgl', q0, q1, q2⟩ := Sl.get ow.rd hk (Below.refl w2.heap.size w2) (Nat.le_refl _)); (injection e with e); (injection e with e1 e2); (subst e1); (subst e2); (simp only [Nat.zero_add] at q0 q1 q2); (have b2 : Below w.heap.size w w2 := ((b1.alloc b1.size _).grown hg2 (by have := b1.size; simp; omega) (by intro j hj; simp [Value.ownBlock] at hj; have := b1.size; omega))); (have bx : ∀ j u, (#[.int .i64 x.state, .int .i64 x.irq, .int .i64 x.prio] : Array Value)[j]? = some u → w2.cell? ⟨w.heap.size, j, none⟩ = some u := fun j u hu => hg2.cell (a := ⟨w.heap.size, j, none⟩) (by rw [World.cell?_alloc_lt _ _ _ (by simp)]; exact HB.out j u hu) (by simp [Value.ownBlock])); (have k0 := bx 0 _ rfl); (have k1 := bx 1 _ rfl); (have k2 := bx 2 _ rfl); (clear hown hg2 bx))
  go_ret
  generalize hw : World.setCell _ _ _ = w3
  obtain rfl : w3 = setL w2 g2 (k * 3) x.cells := hw.symm
  clear hw
  refine ⟨_, rfl, ?_, setL_below b2 x.cells g2 (k * 3) hgb⟩
  have hu : Upd 34 3 w2 (setL w2 g2 (0 + k * 3) x.cells) g2 (0 + k * 3) t.cells x.cells := Upd.of_setL 0 (ys := x.cells) rfl rfl (by simp [Sl.cells])
  have o3 := ow.upd Sl.cells_len (by omega) HT.out hu
  rw [Nat.zero_add] at o3
  exact o3.mono (Nat.le_refl _) (Nat.le_of_eq (setL_size _ w2 g2 (k * 3)).symm)


set_option maxHeartbeats 1000000 in
theorem implWith_any (v : Value) (l : List Sl) (k : Nat) (x : Sl) (w : World) {lo hi : Nat} (h : Rd Sl.cells 3 w lo hi v l) (hh : hi ≤ w.heap.size) (hk : k < l.length) (hlen : l.length ≤ 1048576) :
    Calls Tryz.prog 57 #[v, .int .i64 k, x.val] w fun e w' => ∃ v', e = .returned v' ∧ Ow Sl.cells 3 34 w' w.heap.size w'.heap.size v' (l.set k x) ∧ Below w.heap.size w w' := by
  have hrd := h
  obtain ⟨A, n, c, rfl, H, hc, hm⟩ := h.form
  rw [← H.out] at hk hlen
  have HT := Lib.hid (show l[k]? = some (l[k]'(by rw [← H.out]; exact hk)) from List.getElem?_eq_getElem _)
  generalize l[k]'(by rw [← H.out]; exact hk) = t at HT
  have b1 := (Below.refl w.heap.size w).alloc (Nat.le_refl _) (.cells #[.int .i64 x.state, .int .i64 x.irq, .int .i64 x.prio] 34)
  have bcells : ∀ j u, (#[.int .i64 x.state, .int .i64 x.irq, .int .i64 x.prio] : Array Value)[j]? = some u → (w.alloc (.cells #[.int .i64 x.state, .int .i64 x.irq, .int .i64 x.prio] 34)).cell? ⟨w.heap.size, j, none⟩ = some u := fun j u hu => cell_new w _ _ rfl hu
  have HB := Lib.hid bcells
  have z1 : (w.alloc (.cells #[.int .i64 x.state, .int .i64 x.irq, .int .i64 x.prio] 34)).heap.size = w.heap.size + 1 := by simp
  clear bcells h
  unfold Sl.val
  go_enter Tryz.func57, Tryz.ntmps57
  go_wp2_with (at_builtin; (refine Sl.app_rd rfl _ _ rfl w.heap.size (.slice (some ⟨w.heap.size + 1, 0, none⟩) 0 0) 0 [] rfl (own_empty_at (w.alloc (.cells #[.int .i64 x.state, .int .i64 x.irq, .int .i64 x.prio] 34)) (base := w.heap.size) (g := w.heap.size + 1) 34 3 z1.symm (by omega)) rfl ((hrd.below b1 hh).below ((Below.refl _ _).alloc (Nat.le_refl _) _) (by omega)) (by omega) (by simp; omega) ?_); (intro v2 w2 hown hg2); (obtain ⟨g2, cap, rfl, hgb, hgl⟩ := hown.form (by omega)); (have hfz := hown.frozenAt); (have ow := Ow.of_own Sl.cells_len hown (l := l) (by simp) (by rw [← H.out]; omega)); (rw [Nat.zero_add] at ow); (obtain ⟨_, _, t', e, ht', _, hgl', q0, q1, q2⟩ := Sl.get ow.rd hk (Below.refl w2.heap.size w2) (Nat.le_refl _)); (injection e with e); (injection e with e1 e2); (subst e1); (subst e2); (simp only [Nat.zero_add] at q0 q1 q2); (have b2 : Below w.heap.size w w2 := ((b1.alloc b1.size _).grown hg2 (by have := b1.size; simp; omega) (by intro j hj; simp [Value.ownBlock] at hj; have := b1.size; omega))); (have bx : ∀ j u, (#[.int .i64 x.state, .int .i64 x.irq, .int .i64 x.prio] : Array Value)[j]? = some u → w2.cell? ⟨w.heap.size, j, none⟩ = some u := fun j u hu => hg2.cell (a := ⟨w.heap.size, j, none⟩) (by rw [World.cell?_alloc_lt _ _ _ (by simp)]; exact HB.out j u hu) (by simp [Value.ownBlock])); (have k0 := bx 0 _ rfl); (have k1 := bx 1 _ rfl); (have k2 := bx 2 _ rfl); (clear hown hg2 bx))
  go_ret
  generalize hw : World.setCell _ _ _ = w3
  obtain rfl : w3 = setL w2 g2 (k * 3) x.cells := hw.symm
  clear hw
  refine ⟨_, rfl, ?_, setL_below b2 x.cells g2 (k * 3) hgb⟩
  have hu : Upd 34 3 w2 (setL w2 g2 (0 + k * 3) x.cells) g2 (0 + k * 3) t.cells x.cells := Upd.of_setL 0 (ys := x.cells) rfl rfl (by simp [Sl.cells])
  have o3 := ow.upd Sl.cells_len (by omega) HT.out hu
  rw [Nat.zero_add] at o3
  exact o3.mono (Nat.le_refl _) (Nat.le_of_eq (setL_size _ w2 g2 (k * 3)).symm)


theorem specFind_b (v : Value) (l : List Sl) (i : Int) (w : World) {lo hi : Nat} (h : Rd Sl.cells 3 w lo hi v l) (hh : hi ≤ w.heap.size) : Calls Tryz.prog 59 #[v, .int .i64 i] w fun e w' => e = .returned (.int .i64 (Sl.ix l i)) ∧ Below w.heap.size w w' :=
  (l8Find_any v l i w h hh).mono fun _ _ h => ⟨h.1, h.2 ▸ Below.refl _ _⟩
theorem implFind_b (v : Value) (l : List Sl) (i : Int) (w : World) {lo hi : Nat} (h : Rd Sl.cells 3 w lo hi v l) (hh : hi ≤ w.heap.size) : Calls Tryz.prog 36 #[v, .int .i64 i] w fun e w' => e = .returned (.int .i64 (Sl.ix l i)) ∧ Below w.heap.size w w' := findSlot_any v l i w h hh
theorem specFree_b (v : Value) (l : List Sl) (w : World) {lo hi : Nat} (h : Rd Sl.cells 3 w lo hi v l) (hh : hi ≤ w.heap.size) : Calls Tryz.prog 61 #[v] w fun e w' => e = .returned (.int .i64 (Sl.fx l)) ∧ Below w.heap.size w w' :=
  (l8Free_any v l w h hh).mono fun _ _ h => ⟨h.1, h.2 ▸ Below.refl _ _⟩
theorem implFree_b (v : Value) (l : List Sl) (w : World) {lo hi : Nat} (h : Rd Sl.cells 3 w lo hi v l) (hh : hi ≤ w.heap.size) : Calls Tryz.prog 58 #[v] w fun e w' => e = .returned (.int .i64 (Sl.fx l)) ∧ Below w.heap.size w w' := firstEmpty_any v l w h hh
theorem isActive_at (a b c : Int) (w : World) : Calls Tryz.prog 66 #[.agg #[.int .i64 a, .int .i64 b, .int .i64 c]] w fun e w' => e = .returned (.bool (a == 2 || a == 3)) ∧ Below w.heap.size w w' := by
  by_cases h2 : a = 2
  · subst h2
    go_enter Tryz.func66, Tryz.ntmps66
    go_wp2
    go_ret
    exact ⟨ret_bool (by simp), by go_grown⟩
  · by_cases h3 : a = 3
    · subst h3
      go_enter Tryz.func66, Tryz.ntmps66
      go_wp2
      go_ret
      exact ⟨ret_bool (by simp), by go_grown⟩
    · have HE := Lib.hid (show (a == 2 || a == 3) = false from by simp [h2, h3])
      go_enter Tryz.func66, Tryz.ntmps66
      go_wp2
      go_ret
      exact ⟨ret_bool (by rw [HE.out]; simp [h3]), by go_grown⟩
set_option maxHeartbeats 1000000 in
theorem specPut_in (v : Value) (l : List Sl) (i p : Int) (w : World) {lo hi : Nat} (h : Rd Sl.cells 3 w lo hi v l) (hh : hi ≤ w.heap.size) (hl : l.length ≤ 1048576) :
    Calls Tryz.prog 34 #[v, .int .i64 i, .int .i64 p] w fun r w' => ∃ v', r = .returned (.tuple #[v', .bool (Sl.putOk l i)]) ∧ Ow Sl.cells 3 34 w' w.heap.size w'.heap.size v' (Sl.putR l i p) ∧ Below w.heap.size w w' := by
  have c1 := specFind_b v l i w h hh
  have c2 := fun (W : World) (kb : Below w.heap.size w W) => specFree_b v l W (h.below kb hh) (Nat.le_trans hh kb.size)
  have c3 := fun (W : World) (kb : Below w.heap.size w W) (k : Nat) (s : Sl) (hk : k < l.length) => specWith_any v l k s W (h.below kb hh) (Nat.le_trans hh kb.size) hk hl
  have hrd := h
  obtain ⟨A, n, c, rfl, H, hc, hm⟩ := h.form
  rcases find_cases (Sl.has i) l with ⟨hf, _⟩ | ⟨k, s, hf, hk, hs, hp⟩
  · change Sl.ix l i = -1 at hf
    rw [hf] at c1
    rcases find_cases Sl.free l with ⟨hf2, _⟩ | ⟨k, s, hf2, hk, hs, hp⟩
    · change Sl.fx l = -1 at hf2
      rw [hf2] at c2
      have HF := Lib.hid (Sl.put_no (p := p) hf hf2)
      clear hf hf2 c3
      go_enter Tryz.func34, Tryz.ntmps34
      go_wp2_with fail
      refine c1.mono ?_; rintro q_ w1 ⟨rfl, b1⟩
      go_wp2_with fail
      refine (c2 _ b1).mono ?_; rintro q_ w2 ⟨rfl, b2⟩
      go_wp2_with fail
      go_ret2
      exact ⟨_, by rw [HF.out.1]; rfl, by rw [HF.out.2]; exact Ow.lit0, (b1.trans (b2.mono b1.size)).alloc (by have := b2.size; have := b1.size; omega) _⟩
    · change Sl.fx l = k at hf2
      rw [hf2] at c2
      have HF := Lib.hid (Sl.put_new (p := p) hf hf2)
      have c3 := fun W kb => c3 W kb k ⟨1, i, p⟩ hk
      unfold Sl.val at c3
      simp only at c3
      clear hf hf2 hs hp
      go_enter Tryz.func34, Tryz.ntmps34
      go_wp2_with fail
      refine c1.mono ?_; rintro q_ w1 ⟨rfl, b1⟩
      go_wp2_with fail
      refine (c2 _ b1).mono ?_; rintro q_ w2 ⟨rfl, b2⟩
      replace b1 := b1.trans (b2.mono b1.size)
      go_wp2_with fail
      refine (c3 _ b1).mono ?_; rintro q_ w3 ⟨v', rfl, o1, b3⟩
      have z3 := b1.size
      go_wp2_with fail
      go_ret2
      exact ⟨v', by rw [HF.out.1]; rfl, by rw [HF.out.2]; exact o1.mono z3 (Nat.le_refl _), b1.trans (b3.mono z3)⟩
  · change Sl.ix l i = k at hf
    rw [hf] at c1
    have HF := Lib.hid (Sl.put_hit (p := p) hf hs)
    have hkn : k < n := by rw [H.out]; exact hk
    have HT := Lib.hid hs
    clear hf hs hp c2
    by_cases h2 : s.state = 2
    · have HB := Lib.hid (show Sl.both s = ⟨3, s.irq, s.prio⟩ from by simp [Sl.both, h2])
      rw [HB.out] at HF
      have c3 := fun W kb => c3 W kb k ⟨3, s.irq, s.prio⟩ hk
      unfold Sl.val at c3
      simp only at c3
      go_enter Tryz.func34, Tryz.ntmps34
      go_wp2_with fail
      refine c1.mono ?_; rintro q_ w1 ⟨rfl, b1⟩
      obtain ⟨b, off, t, rfl, ht, _, hbl, f0, f1, f2⟩ := Sl.get hrd hkn b1 hh
      obtain rfl := Option.some.inj (HT.out.symm.trans ht.out)
      have hbw1 : b < w1.heap.size := by have := b1.size; omega
      rw [h2] at f0
      clear h2
      go_wp2_with fail
      refine (c3 _ ?bel).mono ?_
      case bel => first | exact (b1.alloc b1.size _) | exact setL_below (b1.alloc b1.size _) [_] _ _ b1.size
      rintro q_ w3 ⟨v', rfl, o1, b3⟩
      have z3 := b1.size
      go_wp2_with fail
      go_ret2
      exact ⟨v', by rw [HF.out.1]; rfl, by rw [HF.out.2]; exact o1.mono (by simp; omega) (Nat.le_refl _), (b1.alloc b1.size _).trans (b3.mono (by simp; omega))⟩
    · have HB := Lib.hid (show Sl.both s = s from by simp [Sl.both, h2])
      rw [HB.out] at HF
      have c3 := fun W kb => c3 W kb k s hk
      unfold Sl.val at c3
      go_enter Tryz.func34, Tryz.ntmps34
      go_wp2_with fail
      refine c1.mono ?_; rintro q_ w1 ⟨rfl, b1⟩
      obtain ⟨b, off, t, rfl, ht, _, hbl, f0, f1, f2⟩ := Sl.get hrd hkn b1 hh
      obtain rfl := Option.some.inj (HT.out.symm.trans ht.out)
      have hbw1 : b < w1.heap.size := by have := b1.size; omega
      go_wp2_with fail
      refine (c3 _ ?bel).mono ?_
      case bel => first | exact (b1.alloc b1.size _) | exact setL_below (b1.alloc b1.size _) [_] _ _ b1.size
      rintro q_ w3 ⟨v', rfl, o1, b3⟩
      have z3 := b1.size
      go_wp2_with fail
      go_ret2
      exact ⟨v', by rw [HF.out.1]; rfl, by rw [HF.out.2]; exact o1.mono (by simp; omega) (Nat.le_refl _), (b1.alloc b1.size _).trans (b3.mono (by simp; omega))⟩
set_option maxHeartbeats 1000000 in
theorem implPut_in (v : Value) (l : List Sl) (i p : Int) (w : World) {lo hi : Nat} (h : Rd Sl.cells 3 w lo hi v l) (hh : hi ≤ w.heap.size) (hl : l.length ≤ 1048576) :
    Calls Tryz.prog 30 #[v, .int .i64 i, .int .i64 p] w fun r w' => ∃ v', r = .returned (.tuple #[v', .bool (Sl.putOk l i)]) ∧ Ow Sl.cells 3 34 w' w.heap.size w'.heap.size v' (Sl.putR l i p) ∧ Below w.heap.size w w' := by
  have c1 := implFind_b v l i w h hh
  have c2 := fun (W : World) (kb : Below w.heap.size w W) => implFree_b v l W (h.below kb hh) (Nat.le_trans hh kb.size)
  have c3 := fun (W : World) (kb : Below w.heap.size w W) (k : Nat) (s : Sl) (hk : k < l.length) => implWith_any v l k s W (h.below kb hh) (Nat.le_trans hh kb.size) hk hl
  have hrd := h
  obtain ⟨A, n, c, rfl, H, hc, hm⟩ := h.form
  rcases find_cases (Sl.has i) l with ⟨hf, _⟩ | ⟨k, s, hf, hk, hs, hp⟩
  · change Sl.ix l i = -1 at hf
    rw [hf] at c1
    rcases find_cases Sl.free l with ⟨hf2, _⟩ | ⟨k, s, hf2, hk, hs, hp⟩
    · change Sl.fx l = -1 at hf2
      rw [hf2] at c2
      have HF := Lib.hid (Sl.put_no (p := p) hf hf2)
      clear hf hf2 c3
      go_enter Tryz.func30, Tryz.ntmps30
      go_wp2_with fail
      refine c1.mono ?_; rintro q_ w1 ⟨rfl, b1⟩
      go_wp2_with fail
      refine (c2 _ b1).mono ?_; rintro q_ w2 ⟨rfl, b2⟩
      go_wp2_with fail
      go_ret2
      exact ⟨_, by rw [HF.out.1]; rfl, by rw [HF.out.2]; exact Ow.nil_, b1.trans (b2.mono b1.size)⟩
    · change Sl.fx l = k at hf2
      rw [hf2] at c2
      have HF := Lib.hid (Sl.put_new (p := p) hf hf2)
      have c3 := fun W kb => c3 W kb k ⟨1, i, p⟩ hk
      unfold Sl.val at c3
      simp only at c3
      clear hf hf2 hs hp
      go_enter Tryz.func30, Tryz.ntmps30
      go_wp2_with fail
      refine c1.mono ?_; rintro q_ w1 ⟨rfl, b1⟩
      go_wp2_with fail
      refine (c2 _ b1).mono ?_; rintro q_ w2 ⟨rfl, b2⟩
      replace b1 := b1.trans (b2.mono b1.size)
      go_wp2_with fail
      refine (c3 _ b1).mono ?_; rintro q_ w3 ⟨v', rfl, o1, b3⟩
      have z3 := b1.size
      go_wp2_with fail
      go_ret2
      exact ⟨v', by rw [HF.out.1]; rfl, by rw [HF.out.2]; exact o1.mono z3 (Nat.le_refl _), b1.trans (b3.mono z3)⟩
  · change Sl.ix l i = k at hf
    rw [hf] at c1
    have HF := Lib.hid (Sl.put_hit (p := p) hf hs)
    have hkn : k < n := by rw [H.out]; exact hk
    have HT := Lib.hid hs
    clear hf hs hp c2
    by_cases h2 : s.state = 2
    · have HB := Lib.hid (show Sl.both s = ⟨3, s.irq, s.prio⟩ from by simp [Sl.both, h2])
      rw [HB.out] at HF
      have c3 := fun W kb => c3 W kb k ⟨3, s.irq, s.prio⟩ hk
      unfold Sl.val at c3
      simp only at c3
      go_enter Tryz.func30, Tryz.ntmps30
      go_wp2_with fail
      refine c1.mono ?_; rintro q_ w1 ⟨rfl, b1⟩
      obtain ⟨b, off, t, rfl, ht, _, hbl, f0, f1, f2⟩ := Sl.get hrd hkn b1 hh
      obtain rfl := Option.some.inj (HT.out.symm.trans ht.out)
      have hbw1 : b < w1.heap.size := by have := b1.size; omega
      rw [h2] at f0
      clear h2
      go_wp2_with fail
      refine (c3 _ ?bel).mono ?_
      case bel => first | exact (b1.alloc b1.size _) | exact setL_below (b1.alloc b1.size _) [_] _ _ b1.size
      rintro q_ w3 ⟨v', rfl, o1, b3⟩
      have z3 := b1.size
      go_wp2_with fail
      go_ret2
      exact ⟨v', by rw [HF.out.1]; rfl, by rw [HF.out.2]; exact o1.mono (by simp; omega) (Nat.le_refl _), (b1.alloc b1.size _).trans (b3.mono (by simp; omega))⟩
    · have HB := Lib.hid (show Sl.both s = s from by simp [Sl.both, h2])
      rw [HB.out] at HF
      have c3 := fun W kb => c3 W kb k s hk
      unfold Sl.val at c3
      go_enter Tryz.func30, Tryz.ntmps30
      go_wp2_with fail
      refine c1.mono ?_; rintro q_ w1 ⟨rfl, b1⟩
      obtain ⟨b, off, t, rfl, ht, _, hbl, f0, f1, f2⟩ := Sl.get hrd hkn b1 hh
      obtain rfl := Option.some.inj (HT.out.symm.trans ht.out)
      have hbw1 : b < w1.heap.size := by have := b1.size; omega
      go_wp2_with fail
      refine (c3 _ ?bel).mono ?_
      case bel => first | exact (b1.alloc b1.size _) | exact setL_below (b1.alloc b1.size _) [_] _ _ b1.size
      rintro q_ w3 ⟨v', rfl, o1, b3⟩
      have z3 := b1.size
      go_wp2_with fail
      go_ret2
      exact ⟨v', by rw [HF.out.1]; rfl, by rw [HF.out.2]; exact o1.mono (by simp; omega) (Nat.le_refl _), (b1.alloc b1.size _).trans (b3.mono (by simp; omega))⟩
set_option maxHeartbeats 1000000 in
theorem specEnd_in (v : Value) (l : List Sl) (i : Int) (w : World) {lo hi : Nat} (h : Rd Sl.cells 3 w lo hi v l) (hh : hi ≤ w.heap.size) (hg : Sl.good l = true) :
    Calls Tryz.prog 56 #[v, .int .i64 i] w fun r w' => ∃ v', r = .returned (.tuple #[v', .bool (Sl.endOk l i)]) ∧ Ow Sl.cells 3 34 w' w.heap.size w'.heap.size v' (Sl.endR l i) ∧ Below w.heap.size w w' := by
  have hl : l.length ≤ 1048576 := by rw [Sl.good_len hg]; decide
  have c1 := specFind_b v l i w h hh
  have c3 := fun (W : World) (kb : Below w.heap.size w W) (k : Nat) (s : Sl) (hk : k < l.length) => specWith_any v l k s W (h.below kb hh) (Nat.le_trans hh kb.size) hk hl
  have hrd := h
  obtain ⟨A, n, c, rfl, H, hc, hm⟩ := h.form
  rcases find_cases (Sl.has i) l with ⟨hf, _⟩ | ⟨k, s, hf, hk, hs, hp⟩
  · change Sl.ix l i = -1 at hf
    rw [hf] at c1
    have HF := Lib.hid (Sl.end_no hf)
    clear hf c3 hg
    go_enter Tryz.func56, Tryz.ntmps56
    go_wp2_with fail
    refine c1.mono ?_; rintro q_ w1 ⟨rfl, b1⟩
    go_wp2_with fail
    go_ret2
    exact ⟨_, by rw [HF.out.1]; rfl, by rw [HF.out.2]; exact Ow.lit0, b1.alloc b1.size _⟩
  · change Sl.ix l i = k at hf
    rw [hf] at c1
    have hkn : k < n := by rw [H.out]; exact hk
    have HT := Lib.hid hs
    obtain ⟨hirq, hst⟩ := Sl.has_st hg hs hp
    skip
    clear hp hg
    subst hirq
    rcases hst with hst | hst | hst
    · have HF := Lib.hid (Sl.end_no1 hf hs hst)
      skip
      clear hf hs c3
      go_enter Tryz.func56, Tryz.ntmps56
      go_wp2_with fail
      refine c1.mono ?_; rintro q_ w1 ⟨rfl, b1⟩
      obtain ⟨b, off, t, rfl, ht, _, hbl, f0, f1, f2⟩ := Sl.get hrd hkn b1 hh
      obtain rfl := Option.some.inj (HT.out.symm.trans ht.out)
      have hbw1 : b < w1.heap.size := by have := b1.size; omega
      rw [hst] at f0
      clear hst
      go_wp2_with fail
      go_ret2
      exact ⟨_, by rw [HF.out.1]; rfl, by rw [HF.out.2]; exact Ow.lit0, b1.alloc b1.size _⟩
    · have HF := Lib.hid (Sl.end_hit hf hs (by omega))
      have HB := Lib.hid (show Sl.ended s = ⟨0, 0, 0⟩ from by simp [Sl.ended, hst])
      rw [HB.out] at HF
      have c3 := fun W kb => c3 W kb k ⟨0, 0, 0⟩ hk
      unfold Sl.val at c3
      simp only at c3
      skip
      skip
      clear hf hs
      go_enter Tryz.func56, Tryz.ntmps56
      go_wp2_with fail
      refine c1.mono ?_; rintro q_ w1 ⟨rfl, b1⟩
      obtain ⟨b, off, t, rfl, ht, _, hbl, f0, f1, f2⟩ := Sl.get hrd hkn b1 hh
      obtain rfl := Option.some.inj (HT.out.symm.trans ht.out)
      have hbw1 : b < w1.heap.size := by have := b1.size; omega
      rw [hst] at f0
      clear hst
      go_wp2_with fail
      refine (c3 _ ?bel).mono ?_
      case bel => exact b1
      rintro q_ w3 ⟨v', rfl, o1, b3⟩
      have z3 := b1.size
      go_wp2_with fail
      go_ret2
      exact ⟨v', by rw [HF.out.1]; rfl, by rw [HF.out.2]; exact o1.mono z3 (Nat.le_refl _), b1.trans (b3.mono z3)⟩
    · have HF := Lib.hid (Sl.end_hit hf hs (by omega))
      have HB := Lib.hid (show Sl.ended s = ⟨1, s.irq, s.prio⟩ from by simp [Sl.ended, hst])
      rw [HB.out] at HF
      have c3 := fun W kb => c3 W kb k ⟨1, s.irq, s.prio⟩ hk
      unfold Sl.val at c3
      simp only at c3
      skip
      skip
      clear hf hs
      go_enter Tryz.func56, Tryz.ntmps56
      go_wp2_with fail
      refine c1.mono ?_; rintro q_ w1 ⟨rfl, b1⟩
      obtain ⟨b, off, t, rfl, ht, _, hbl, f0, f1, f2⟩ := Sl.get hrd hkn b1 hh
      obtain rfl := Option.some.inj (HT.out.symm.trans ht.out)
      have hbw1 : b < w1.heap.size := by have := b1.size; omega
      rw [hst] at f0
      clear hst
      go_wp2_with fail
      refine (c3 _ ?bel).mono ?_
      case bel => first | exact (b1.alloc b1.size _) | exact setL_below (b1.alloc b1.size _) [_] _ _ b1.size
      rintro q_ w3 ⟨v', rfl, o1, b3⟩
      have z3 := b1.size
      go_wp2_with fail
      go_ret2
      exact ⟨v', by rw [HF.out.1]; rfl, by rw [HF.out.2]; exact o1.mono (by simp; omega) (Nat.le_refl _), (b1.alloc b1.size _).trans (b3.mono (by simp; omega))⟩
set_option maxHeartbeats 1000000 in
theorem implEnd_in (v : Value) (l : List Sl) (i : Int) (w : World) {lo hi : Nat} (h : Rd Sl.cells 3 w lo hi v l) (hh : hi ≤ w.heap.size) (hg : Sl.good l = true) :
    Calls Tryz.prog 43 #[v, .int .i64 i] w fun r w' => ∃ v', r = .returned (.tuple #[v', .bool (Sl.endOk l i)]) ∧ Ow Sl.cells 3 34 w' w.heap.size w'.heap.size v' (Sl.endR l i) ∧ Below w.heap.size w w' := by
  have hl : l.length ≤ 1048576 := by rw [Sl.good_len hg]; decide
  have c1 := implFind_b v l i w h hh
  have c3 := fun (W : World) (kb : Below w.heap.size w W) (k : Nat) (s : Sl) (hk : k < l.length) => implWith_any v l k s W (h.below kb hh) (Nat.le_trans hh kb.size) hk hl
  have hrd := h
  obtain ⟨A, n, c, rfl, H, hc, hm⟩ := h.form
  rcases find_cases (Sl.has i) l with ⟨hf, _⟩ | ⟨k, s, hf, hk, hs, hp⟩
  · change Sl.ix l i = -1 at hf
    rw [hf] at c1
    have HF := Lib.hid (Sl.end_no hf)
    clear hf c3 hg
    go_enter Tryz.func43, Tryz.ntmps43
    go_wp2_with fail
    refine c1.mono ?_; rintro q_ w1 ⟨rfl, b1⟩
    go_wp2_with fail
    go_ret2
    exact ⟨_, by rw [HF.out.1]; rfl, by rw [HF.out.2]; exact Ow.nil_, b1⟩
  · change Sl.ix l i = k at hf
    rw [hf] at c1
    have hkn : k < n := by rw [H.out]; exact hk
    have HT := Lib.hid hs
    obtain ⟨hirq, hst⟩ := Sl.has_st hg hs hp
    have c4 := fun W => isActive_at s.state s.irq s.prio W
    clear hp hg
    subst hirq
    rcases hst with hst | hst | hst
    · have HF := Lib.hid (Sl.end_no1 hf hs hst)
      rw [hst] at c4
      clear hf hs c3
      go_enter Tryz.func43, Tryz.ntmps43
      go_wp2_with fail
      refine c1.mono ?_; rintro q_ w1 ⟨rfl, b1⟩
      obtain ⟨b, off, t, rfl, ht, _, hbl, f0, f1, f2⟩ := Sl.get hrd hkn b1 hh
      obtain rfl := Option.some.inj (HT.out.symm.trans ht.out)
      have hbw1 : b < w1.heap.size := by have := b1.size; omega
      rw [hst] at f0
      clear hst
      go_wp2_with fail
      refine (c4 _).mono ?_; rintro q_ w2 ⟨rfl, b2⟩
      replace b1 := b1.trans (b2.mono b1.size)
      go_wp2_with fail
      go_ret2
      exact ⟨_, by rw [HF.out.1]; rfl, by rw [HF.out.2]; exact Ow.nil_, b1⟩
    · have HF := Lib.hid (Sl.end_hit hf hs (by omega))
      have HB := Lib.hid (show Sl.ended s = ⟨0, 0, 0⟩ from by simp [Sl.ended, hst])
      rw [HB.out] at HF
      have c3 := fun W kb => c3 W kb k ⟨0, 0, 0⟩ hk
      unfold Sl.val at c3
      simp only at c3
      rw [hst] at c4
      skip
      clear hf hs
      go_enter Tryz.func43, Tryz.ntmps43
      go_wp2_with fail
      refine c1.mono ?_; rintro q_ w1 ⟨rfl, b1⟩
      obtain ⟨b, off, t, rfl, ht, _, hbl, f0, f1, f2⟩ := Sl.get hrd hkn b1 hh
      obtain rfl := Option.some.inj (HT.out.symm.trans ht.out)
      have hbw1 : b < w1.heap.size := by have := b1.size; omega
      rw [hst] at f0
      clear hst
      go_wp2_with fail
      refine (c4 _).mono ?_; rintro q_ w2 ⟨rfl, b2⟩
      replace f0 := (b2.cell (p := ⟨b, off + k * 3, none⟩) hbw1).trans f0
      replace f1 := (b2.cell (p := ⟨b, off + k * 3 + 1, none⟩) hbw1).trans f1
      replace f2 := (b2.cell (p := ⟨b, off + k * 3 + 2, none⟩) hbw1).trans f2
      replace hbw1 := Nat.lt_of_lt_of_le hbw1 b2.size
      replace b1 := b1.trans (b2.mono b1.size)
      clear b2
      go_wp2_with fail
      refine (c3 _ ?bel).mono ?_
      case bel => first | exact (b1.alloc b1.size _) | exact setL_below (b1.alloc b1.size _) [_] _ _ b1.size
      rintro q_ w3 ⟨v', rfl, o1, b3⟩
      have z3 := b1.size
      go_wp2_with fail
      go_ret2
      exact ⟨v', by rw [HF.out.1]; rfl, by rw [HF.out.2]; exact o1.mono (by simp; omega) (Nat.le_refl _), (b1.alloc b1.size _).trans (b3.mono (by simp; omega))⟩
    · have HF := Lib.hid (Sl.end_hit hf hs (by omega))
      have HB := Lib.hid (show Sl.ended s = ⟨1, s.irq, s.prio⟩ from by simp [Sl.ended, hst])
      rw [HB.out] at HF
      have c3 := fun W kb => c3 W kb k ⟨1, s.irq, s.prio⟩ hk
      unfold Sl.val at c3
      simp only at c3
      rw [hst] at c4
      skip
      clear hf hs
      go_enter Tryz.func43, Tryz.ntmps43
      go_wp2_with fail
      refine c1.mono ?_; rintro q_ w1 ⟨rfl, b1⟩
      obtain ⟨b, off, t, rfl, ht, _, hbl, f0, f1, f2⟩ := Sl.get hrd hkn b1 hh
      obtain rfl := Option.some.inj (HT.out.symm.trans ht.out)
      have hbw1 : b < w1.heap.size := by have := b1.size; omega
      rw [hst] at f0
      clear hst
      go_wp2_with fail
      refine (c4 _).mono ?_; rintro q_ w2 ⟨rfl, b2⟩
      replace f0 := (b2.cell (p := ⟨b, off + k * 3, none⟩) hbw1).trans f0
      replace f1 := (b2.cell (p := ⟨b, off + k * 3 + 1, none⟩) hbw1).trans f1
      replace f2 := (b2.cell (p := ⟨b, off + k * 3 + 2, none⟩) hbw1).trans f2
      replace hbw1 := Nat.lt_of_lt_of_le hbw1 b2.size
      replace b1 := b1.trans (b2.mono b1.size)
      clear b2
      go_wp2_with fail
      refine (c3 _ ?bel).mono ?_
      case bel => first | exact (b1.alloc b1.size _) | exact setL_below (b1.alloc b1.size _) [_] _ _ b1.size
      rintro q_ w3 ⟨v', rfl, o1, b3⟩
      have z3 := b1.size
      go_wp2_with fail
      go_ret2
      exact ⟨v', by rw [HF.out.1]; rfl, by rw [HF.out.2]; exact o1.mono (by simp; omega) (Nat.le_refl _), (b1.alloc b1.size _).trans (b3.mono (by simp; omega))⟩

end Go.Proofs.YtaggjadgbmmjoaaGreatDoor

/- The functions on slots: whether they are valid, finding, counting, putting and ending, in the program and in the reference. No condition. -/
namespace Go.Proofs.YtaggjadgbmmjoaaGreatDoor
open Go.RowKit Go.ChangeShapes Go.WideShapes Go.Deep

def Sl.gI (l : List Sl) (i : Int) : Bool := Sl.good l && inB i 0 7
def Sl.gIP (l : List Sl) (i p : Int) : Bool := Sl.good l && (inB i 0 7 && inB p 0 15)
def Sl.fsOk (l : List Sl) (i : Int) : Bool := Sl.gI l i && decide (0 ≤ Sl.ix l i)
def Sl.fsV (l : List Sl) (i : Int) : Int := if Sl.fsOk l i then Sl.ix l i else 0
def Sl.emp (l : List Sl) : Int := if Sl.good l then (l.countP Sl.free : Nat) else 0
def Sl.pOk (l : List Sl) (i p : Int) : Bool := Sl.gIP l i p && Sl.putOk l i
def Sl.pR (l : List Sl) (i p : Int) : List Sl := if Sl.gIP l i p then Sl.putR l i p else []
def Sl.eOk (l : List Sl) (i : Int) : Bool := Sl.gI l i && Sl.endOk l i
def Sl.eR (l : List Sl) (i : Int) : List Sl := if Sl.gI l i then Sl.endR l i else []
theorem Sl.pR_len (l : List Sl) (i p : Int) : (Sl.pR l i p).length ≤ 1048576 := by
  unfold Sl.pR; split
  · rename_i h
    simp only [Sl.gIP, Bool.and_eq_true] at h
    exact Sl.putR_len l i p (by rw [Sl.good_len h.1]; decide)
  · simp
theorem Sl.eR_len (l : List Sl) (i : Int) : (Sl.eR l i).length ≤ 1048576 := by
  unfold Sl.eR; split
  · rename_i h
    simp only [Sl.gI, Bool.and_eq_true] at h
    exact Sl.endR_len l i (by rw [Sl.good_len h.1]; decide)
  · simp

theorem specAreSlots_any (v : Value) (l : List Sl) (w : World) {lo hi : Nat} (h : Rd Sl.cells 3 w lo hi v l) (hh : hi ≤ w.heap.size) : Calls Tryz.prog 10 #[v] w fun e w' => e = .returned (.bool (Sl.good l)) ∧ Below w.heap.size w w' := by
  have c1 := l8Good_any v l w h hh
  obtain ⟨A, n, c, rfl, H, hc, hm⟩ := h.form
  go_enter Tryz.func10, Tryz.ntmps10
  go_wp2_with (go_at_call 31; refine c1.mono ?_; rintro e w1 ⟨rfl, hb1⟩)
  go_ret
  exact ⟨rfl, hb1⟩
set_option maxHeartbeats 1000000 in
theorem specPutIrq_any (v : Value) (l : List Sl) (i p : Int) (w : World) {lo hi : Nat} (h : Rd Sl.cells 3 w lo hi v l) (hh : hi ≤ w.heap.size) :
    Calls Tryz.prog 7 #[v, .int .i64 i, .int .i64 p] w fun r w' => ∃ v', r = .returned (.tuple #[v', .bool (Sl.pOk l i p)]) ∧ Rd Sl.cells 3 w' 0 w'.heap.size v' (Sl.pR l i p) ∧ Below w.heap.size w w' := by
  have c1 := l8Good_any v l w h hh
  have d0 := fun W => l6Irq_any i W
  have d1 := fun W => l6Prio_any p W
  have c3 := fun (W : World) (kb : Below w.heap.size w W) (hg : Sl.good l = true) => specPut_in v l i p W (h.below kb hh) (Nat.le_trans hh kb.size) (by rw [Sl.good_len hg]; decide)
  obtain ⟨A, n, c, rfl, H, hc, hm⟩ := h.form
  cases hg : Sl.good l
  · have HF := Lib.hid (show (Sl.pOk l i p) = false ∧ (Sl.pR l i p) = [] from by simp [Sl.pOk, Sl.pR, Sl.gIP, hg])
    rw [hg] at c1
    clear hg c3
    go_enter Tryz.func7, Tryz.ntmps7
    go_wp2_with fail
    refine c1.mono ?_; rintro q_ w1 ⟨rfl, b1⟩
    go_wp2_with fail
    go_ret2
    exact ⟨_, by rw [HF.out.1]; rfl, by rw [HF.out.2]; exact Rd.empty (by decide), b1.alloc b1.size _⟩
  · cases h0 : inB i 0 7
    · have HF := Lib.hid (show (Sl.pOk l i p) = false ∧ (Sl.pR l i p) = [] from by simp [Sl.pOk, Sl.pR, Sl.gIP, h0])
      rw [hg] at c1
      rw [h0] at d0
      clear hg c3 h0
      go_enter Tryz.func7, Tryz.ntmps7
      go_wp2_with fail
      refine c1.mono ?_; rintro q_ w1 ⟨rfl, b1⟩
      go_wp2_with fail
      refine (d0 _).mono ?_; rintro q_ w' ⟨rfl, rfl⟩
      go_wp2_with fail
      go_ret2
      exact ⟨_, by rw [HF.out.1]; rfl, by rw [HF.out.2]; exact Rd.empty (by decide), b1.alloc b1.size _⟩
    · cases h1 : inB p 0 15
      · have HF := Lib.hid (show (Sl.pOk l i p) = false ∧ (Sl.pR l i p) = [] from by simp [Sl.pOk, Sl.pR, Sl.gIP, h1])
        rw [hg] at c1
        rw [h0] at d0
        rw [h1] at d1
        clear hg c3 h0 h1
        go_enter Tryz.func7, Tryz.ntmps7
        go_wp2_with fail
        refine c1.mono ?_; rintro q_ w1 ⟨rfl, b1⟩
        go_wp2_with fail
        refine (d0 _).mono ?_; rintro q_ w' ⟨rfl, rfl⟩
        go_wp2_with fail
        refine (d1 _).mono ?_; rintro q_ w' ⟨rfl, rfl⟩
        go_wp2_with fail
        go_ret2
        exact ⟨_, by rw [HF.out.1]; rfl, by rw [HF.out.2]; exact Rd.empty (by decide), b1.alloc b1.size _⟩
      · have HF := Lib.hid (show (Sl.pOk l i p) = (Sl.putOk l i) ∧ (Sl.pR l i p) = (Sl.putR l i p) from by simp [Sl.pOk, Sl.pR, Sl.gIP, hg, h0, h1])
        have c3 := fun W kb => c3 W kb hg
        rw [hg] at c1
        rw [h0] at d0
        rw [h1] at d1
        clear hg h0 h1
        go_enter Tryz.func7, Tryz.ntmps7
        go_wp2_with fail
        refine c1.mono ?_; rintro q_ w1 ⟨rfl, b1⟩
        go_wp2_with fail
        refine (d0 _).mono ?_; rintro q_ w' ⟨rfl, rfl⟩
        go_wp2_with fail
        refine (d1 _).mono ?_; rintro q_ w' ⟨rfl, rfl⟩
        go_wp2_with fail
        refine (c3 _ b1).mono ?_; rintro q_ w3 ⟨v', rfl, o1, b3⟩
        have z3 := b1.size
        go_wp2_with fail
        go_ret2
        exact ⟨v', by rw [HF.out.1]; rfl, by rw [HF.out.2]; exact o1.rd.mono (Nat.zero_le _) (Nat.le_refl _), b1.trans (b3.mono z3)⟩
set_option maxHeartbeats 1000000 in
theorem implFindSlot_any (v : Value) (l : List Sl) (i : Int) (w : World) {lo hi : Nat} (h : Rd Sl.cells 3 w lo hi v l) (hh : hi ≤ w.heap.size) :
    Calls Tryz.prog 11 #[v, .int .i64 i] w fun r w' => r = .returned (.tuple #[.int .i64 (Sl.fsV l i), .bool (Sl.fsOk l i)]) ∧ Below w.heap.size w w' := by
  have c1 := implAreSlots_any v l w h hh
  have d0 := fun W => isIrq_any i W
  have c3 := fun (W : World) (kb : Below w.heap.size w W) => implFind_b v l i W (h.below kb hh) (Nat.le_trans hh kb.size)
  obtain ⟨A, n, c, rfl, H, hc, hm⟩ := h.form
  cases hg : Sl.good l
  · have HF := Lib.hid (show Sl.fsOk l i = false ∧ Sl.fsV l i = 0 from by simp [Sl.fsOk, Sl.fsV, Sl.gI, hg])
    rw [hg] at c1
    clear hg c3
    go_enter Tryz.func11, Tryz.ntmps11
    go_wp2_with fail
    refine c1.mono ?_; rintro q_ w1 ⟨rfl, b1⟩
    go_wp2_with fail
    go_ret2
    exact ⟨by rw [HF.out.1, HF.out.2]; rfl, b1⟩
  · cases h0 : inB i 0 7
    · have HF := Lib.hid (show Sl.fsOk l i = false ∧ Sl.fsV l i = 0 from by simp [Sl.fsOk, Sl.fsV, Sl.gI, h0])
      rw [hg] at c1
      rw [h0] at d0
      clear hg h0 c3
      go_enter Tryz.func11, Tryz.ntmps11
      go_wp2_with fail
      refine c1.mono ?_; rintro q_ w1 ⟨rfl, b1⟩
      go_wp2_with fail
      refine (d0 _).mono ?_; rintro q_ w' ⟨rfl, rfl⟩
      go_wp2_with fail
      go_ret2
      exact ⟨by rw [HF.out.1, HF.out.2]; rfl, b1⟩
    · rw [hg] at c1
      rw [h0] at d0
      rcases find_cases (Sl.has i) l with ⟨hf, _⟩ | ⟨k, s, hf, hk, hs, hp⟩
      · change Sl.ix l i = -1 at hf
        have HF := Lib.hid (show Sl.fsOk l i = false ∧ Sl.fsV l i = 0 from by simp [Sl.fsOk, Sl.fsV, hf])
        rw [hf] at c3
        clear hg h0 hf
        go_enter Tryz.func11, Tryz.ntmps11
        go_wp2_with fail
        refine c1.mono ?_; rintro q_ w1 ⟨rfl, b1⟩
        go_wp2_with fail
        refine (d0 _).mono ?_; rintro q_ w' ⟨rfl, rfl⟩
        go_wp2_with fail
        refine (c3 _ b1).mono ?_; rintro q_ w3 ⟨rfl, b3⟩
        go_wp2_with fail
        go_ret2
        exact ⟨by rw [HF.out.1, HF.out.2]; rfl, b1.trans (b3.mono b1.size)⟩
      · change Sl.ix l i = k at hf
        have HF := Lib.hid (show Sl.fsOk l i = true ∧ Sl.fsV l i = k from by simp [Sl.fsOk, Sl.fsV, hf, Sl.gI, hg, h0])
        rw [hf] at c3
        clear hg h0 hf hs hp
        go_enter Tryz.func11, Tryz.ntmps11
        go_wp2_with fail
        refine c1.mono ?_; rintro q_ w1 ⟨rfl, b1⟩
        go_wp2_with fail
        refine (d0 _).mono ?_; rintro q_ w' ⟨rfl, rfl⟩
        go_wp2_with fail
        refine (c3 _ b1).mono ?_; rintro q_ w3 ⟨rfl, b3⟩
        replace b1 := b1.trans (b3.mono b1.size)
        clear b3
        go_wp2_with fail
        refine (c3 _ b1).mono ?_; rintro q_ w4 ⟨rfl, b4⟩
        go_wp2_with fail
        go_ret2
        exact ⟨by rw [HF.out.1, HF.out.2]; rfl, b1.trans (b4.mono b1.size)⟩
set_option maxHeartbeats 1000000 in
theorem implEmptySlots_any (v : Value) (l : List Sl) (w : World) {lo hi : Nat} (h : Rd Sl.cells 3 w lo hi v l) (hh : hi ≤ w.heap.size) :
    Calls Tryz.prog 18 #[v] w fun r w' => r = .returned (.tuple #[.int .i64 (Sl.emp l), .bool (Sl.good l)]) ∧ Below w.heap.size w w' := by
  have c1 := implAreSlots_any v l w h hh
  have hrd := h
  obtain ⟨A, n, c, rfl, H, hc, hm⟩ := h.form
  cases hg : Sl.good l
  · have HF := Lib.hid (show Sl.emp l = 0 from by simp [Sl.emp, hg])
    rw [hg] at c1
    clear hg
    go_enter Tryz.func18, Tryz.ntmps18
    go_wp2_with fail
    refine c1.mono ?_; rintro q_ w1 ⟨rfl, b1⟩
    go_wp2_with fail
    go_ret2
    exact ⟨by rw [HF.out]; rfl, b1⟩
  · have HF := Lib.hid (show Sl.emp l = (l.countP Sl.free : Nat) from by simp [Sl.emp, hg])
    have hn4 : n ≤ 4 := by rw [H.out, Sl.good_len hg]; decide
    rw [hg] at c1
    clear hg
    go_enter Tryz.func18, Tryz.ntmps18
    go_wp2_with fail
    refine c1.mono ?_; rintro q_ w1 ⟨rfl, b1⟩
    go_wp2_with fail
    go_loopw [4, 12] (fun q i wr => ∃ k : Nat, k ≤ n ∧ i = .int .i64 k ∧ q = .int .i64 ((l.take k).countP Sl.free) ∧ Below w.heap.size w wr) (fun _ i _ => n - (intOf i).toNat)
    case atStart => exact ⟨0, Nat.zero_le _, rfl, rfl, b1⟩
    case round =>
      clear b1 c1
      obtain ⟨k, hk, rfl, rfl, hb⟩ := hrel
      have hq1 : (l.take k).countP Sl.free ≤ k := Nat.le_trans List.countP_le_length (by rw [List.length_take]; omega)
      by_cases hlt : k < n
      · obtain ⟨b, off, s, rfl, hs, _, hbl, f0, f1, f2⟩ := Sl.get hrd hlt hb hh
        have hb2 := hb.alloc hb.size (.cells #[.int .i64 s.state, .int .i64 s.irq, .int .i64 s.prio] 34)
        have hN : (l.take (k + 1)).countP Sl.free = (l.take k).countP Sl.free + if Sl.free s = true then 1 else 0 := by
          rw [List.take_add_one, hs.out, List.countP_append]; simp
        generalize (l.take k).countP Sl.free = q at hN hq1 ⊢
        by_cases h0 : s.state = 0
        · have HQ := Lib.hid (show (l.take (k + 1)).countP Sl.free = q + 1 from by rw [hN]; simp [Sl.free, h0])
          rw [h0] at f0 hb2
          clear hN h0
          go_wp2_with fail
          go_roundw
          case rel => exact ⟨k + 1, by omega, by go_num, by rw [HQ.out]; simp, hb2⟩
          case measure => simp [intOf]; omega
        · have HQ := Lib.hid (show (l.take (k + 1)).countP Sl.free = q from by rw [hN]; simp [Sl.free, h0])
          clear hN
          go_wp2_with fail
          go_roundw
          case rel => exact ⟨k + 1, by omega, by go_num, by rw [HQ.out], hb2⟩
          case measure => simp [intOf]; omega
      · have hkn : l.take k = l := List.take_of_length_le (by rw [← H.out]; omega)
        have HK := Lib.hid hkn
        clear hkn
        go_wp2_with fail
        go_ret2
        exact ⟨by rw [HF.out, HK.out]; rfl, hb⟩
set_option maxHeartbeats 1000000 in
theorem implPutIrq_any (v : Value) (l : List Sl) (i p : Int) (w : World) {lo hi : Nat} (h : Rd Sl.cells 3 w lo hi v l) (hh : hi ≤ w.heap.size) :
    Calls Tryz.prog 6 #[v, .int .i64 i, .int .i64 p] w fun r w' => ∃ v', r = .returned (.tuple #[v', .bool (Sl.pOk l i p)]) ∧ Ow Sl.cells 3 34 w' w.heap.size w'.heap.size v' (Sl.pR l i p) ∧ (Sl.pR l i p).length ≤ 1048576 ∧ Below w.heap.size w w' := by
  have hlen := Sl.pR_len l i p
  have c1 := implAreSlots_any v l w h hh
  have d0 := fun W => isIrq_any i W
  have d1 := fun W => isPriority_any p W
  have c3 := fun (W : World) (kb : Below w.heap.size w W) (hg : Sl.good l = true) => implPut_in v l i p W (h.below kb hh) (Nat.le_trans hh kb.size) (by rw [Sl.good_len hg]; decide)
  obtain ⟨A, n, c, rfl, H, hc, hm⟩ := h.form
  cases hg : Sl.good l
  · have HF := Lib.hid (show (Sl.pOk l i p) = false ∧ (Sl.pR l i p) = [] from by simp [Sl.pOk, Sl.pR, Sl.gIP, hg])
    rw [hg] at c1
    clear hg c3
    go_enter Tryz.func6, Tryz.ntmps6
    go_wp2_with fail
    refine c1.mono ?_; rintro q_ w1 ⟨rfl, b1⟩
    go_wp2_with fail
    go_ret2
    exact ⟨_, by rw [HF.out.1]; rfl, by rw [HF.out.2]; exact Ow.nil_, hlen, b1⟩
  · cases h0 : inB i 0 7
    · have HF := Lib.hid (show (Sl.pOk l i p) = false ∧ (Sl.pR l i p) = [] from by simp [Sl.pOk, Sl.pR, Sl.gIP, h0])
      rw [hg] at c1
      rw [h0] at d0
      clear hg c3 h0
      go_enter Tryz.func6, Tryz.ntmps6
      go_wp2_with fail
      refine c1.mono ?_; rintro q_ w1 ⟨rfl, b1⟩
      go_wp2_with fail
      refine (d0 _).mono ?_; rintro q_ w' ⟨rfl, rfl⟩
      go_wp2_with fail
      go_ret2
      exact ⟨_, by rw [HF.out.1]; rfl, by rw [HF.out.2]; exact Ow.nil_, hlen, b1⟩
    · cases h1 : inB p 0 15
      · have HF := Lib.hid (show (Sl.pOk l i p) = false ∧ (Sl.pR l i p) = [] from by simp [Sl.pOk, Sl.pR, Sl.gIP, h1])
        rw [hg] at c1
        rw [h0] at d0
        rw [h1] at d1
        clear hg c3 h0 h1
        go_enter Tryz.func6, Tryz.ntmps6
        go_wp2_with fail
        refine c1.mono ?_; rintro q_ w1 ⟨rfl, b1⟩
        go_wp2_with fail
        refine (d0 _).mono ?_; rintro q_ w' ⟨rfl, rfl⟩
        go_wp2_with fail
        refine (d1 _).mono ?_; rintro q_ w' ⟨rfl, rfl⟩
        go_wp2_with fail
        go_ret2
        exact ⟨_, by rw [HF.out.1]; rfl, by rw [HF.out.2]; exact Ow.nil_, hlen, b1⟩
      · have HF := Lib.hid (show (Sl.pOk l i p) = (Sl.putOk l i) ∧ (Sl.pR l i p) = (Sl.putR l i p) from by simp [Sl.pOk, Sl.pR, Sl.gIP, hg, h0, h1])
        have c3 := fun W kb => c3 W kb hg
        rw [hg] at c1
        rw [h0] at d0
        rw [h1] at d1
        clear hg h0 h1
        go_enter Tryz.func6, Tryz.ntmps6
        go_wp2_with fail
        refine c1.mono ?_; rintro q_ w1 ⟨rfl, b1⟩
        go_wp2_with fail
        refine (d0 _).mono ?_; rintro q_ w' ⟨rfl, rfl⟩
        go_wp2_with fail
        refine (d1 _).mono ?_; rintro q_ w' ⟨rfl, rfl⟩
        go_wp2_with fail
        refine (c3 _ b1).mono ?_; rintro q_ w3 ⟨v', rfl, o1, b3⟩
        have z3 := b1.size
        go_wp2_with fail
        go_ret2
        exact ⟨v', by rw [HF.out.1]; rfl, by rw [HF.out.2]; exact o1.mono z3 (Nat.le_refl _), hlen, b1.trans (b3.mono z3)⟩
set_option maxHeartbeats 1000000 in
theorem implEndSlot_any (v : Value) (l : List Sl) (i : Int) (w : World) {lo hi : Nat} (h : Rd Sl.cells 3 w lo hi v l) (hh : hi ≤ w.heap.size) :
    Calls Tryz.prog 17 #[v, .int .i64 i] w fun r w' => ∃ v', r = .returned (.tuple #[v', .bool (Sl.eOk l i)]) ∧ Ow Sl.cells 3 34 w' w.heap.size w'.heap.size v' (Sl.eR l i) ∧ (Sl.eR l i).length ≤ 1048576 ∧ Below w.heap.size w w' := by
  have hlen := Sl.eR_len l i
  have c1 := implAreSlots_any v l w h hh
  have d0 := fun W => isIrq_any i W
  have c3 := fun (W : World) (kb : Below w.heap.size w W) (hg : Sl.good l = true) => implEnd_in v l i W (h.below kb hh) (Nat.le_trans hh kb.size) hg
  obtain ⟨A, n, c, rfl, H, hc, hm⟩ := h.form
  cases hg : Sl.good l
  · have HF := Lib.hid (show (Sl.eOk l i) = false ∧ (Sl.eR l i) = [] from by simp [Sl.eOk, Sl.eR, Sl.gI, hg])
    rw [hg] at c1
    clear hg c3
    go_enter Tryz.func17, Tryz.ntmps17
    go_wp2_with fail
    refine c1.mono ?_; rintro q_ w1 ⟨rfl, b1⟩
    go_wp2_with fail
    go_ret2
    exact ⟨_, by rw [HF.out.1]; rfl, by rw [HF.out.2]; exact Ow.nil_, hlen, b1⟩
  · cases h0 : inB i 0 7
    · have HF := Lib.hid (show (Sl.eOk l i) = false ∧ (Sl.eR l i) = [] from by simp [Sl.eOk, Sl.eR, Sl.gI, h0])
      rw [hg] at c1
      rw [h0] at d0
      clear hg c3 h0
      go_enter Tryz.func17, Tryz.ntmps17
      go_wp2_with fail
      refine c1.mono ?_; rintro q_ w1 ⟨rfl, b1⟩
      go_wp2_with fail
      refine (d0 _).mono ?_; rintro q_ w' ⟨rfl, rfl⟩
      go_wp2_with fail
      go_ret2
      exact ⟨_, by rw [HF.out.1]; rfl, by rw [HF.out.2]; exact Ow.nil_, hlen, b1⟩
    · have HF := Lib.hid (show (Sl.eOk l i) = (Sl.endOk l i) ∧ (Sl.eR l i) = (Sl.endR l i) from by simp [Sl.eOk, Sl.eR, Sl.gI, hg, h0])
      have c3 := fun W kb => c3 W kb hg
      rw [hg] at c1
      rw [h0] at d0
      clear hg h0
      go_enter Tryz.func17, Tryz.ntmps17
      go_wp2_with fail
      refine c1.mono ?_; rintro q_ w1 ⟨rfl, b1⟩
      go_wp2_with fail
      refine (d0 _).mono ?_; rintro q_ w' ⟨rfl, rfl⟩
      go_wp2_with fail
      refine (c3 _ b1).mono ?_; rintro q_ w3 ⟨v', rfl, o1, b3⟩
      have z3 := b1.size
      go_wp2_with fail
      go_ret2
      exact ⟨v', by rw [HF.out.1]; rfl, by rw [HF.out.2]; exact o1.mono z3 (Nat.le_refl _), hlen, b1.trans (b3.mono z3)⟩

end Go.Proofs.YtaggjadgbmmjoaaGreatDoor

/- Comparing two numbers as the library does. No condition. -/
namespace Go.Proofs.YtaggjadgbmmjoaaGreatDoor
open Go.RowKit Go.ChangeShapes Go.WideShapes Go.Deep

def cmpI (a b : Int) : Int := if a < b then -1 else if b < a then 1 else 0
theorem compare_any (a b : Int) (w : World) : Calls Tryz.prog 94 #[.int .i64 a, .int .i64 b] w fun e w' => e = .returned (.int .i64 (cmpI a b)) ∧ w' = w := by
  rcases Int.lt_trichotomy a b with h | h | h
  · have HC := Lib.hid (show cmpI a b = -1 from by simp [cmpI, h])
    go_enter Tryz.func94, Tryz.ntmps94
    go_wp2
    go_ret
    exact ⟨ret_int HC.out.symm, rfl⟩
  · subst h
    have HC := Lib.hid (show cmpI a a = 0 from by simp [cmpI])
    have h1 : ¬ a < a := by omega
    go_enter Tryz.func94, Tryz.ntmps94
    go_wp2
    go_ret
    exact ⟨ret_int HC.out.symm, rfl⟩
  · have h1 : ¬ a < b := by omega
    have HC := Lib.hid (show cmpI a b = 1 from by simp [cmpI, h, h1])
    go_enter Tryz.func94, Tryz.ntmps94
    go_wp2
    go_ret
    exact ⟨ret_int HC.out.symm, rfl⟩

end Go.Proofs.YtaggjadgbmmjoaaGreatDoor

/- The type 'Waiter' of the law text and of the program: its data, its cells, and what the law text's own helpers do with lists of it. No condition. -/
namespace Go.Proofs.YtaggjadgbmmjoaaGreatDoor
open Go.RowKit Go.ChangeShapes Go.WideShapes Go.Deep

structure Wt where
  irq : Int
  prio : Int
  deriving DecidableEq, Inhabited

def Wt.cells (t : Wt) : List Value := [.int .i64 t.irq, .int .i64 t.prio]
def Wt.val (t : Wt) : Value := .agg #[.int .i64 t.irq, .int .i64 t.prio]
def Wt.zero : Wt := ⟨0, 0⟩
theorem Wt.get {w : World} {lo hi : Nat} {A : Option Addr} {n c k : Nat} {l : List Wt} (h : Rd Wt.cells 2 w lo hi (.slice A n c) l) (hk : k < n) {B : Nat} {wr : World} (hb : Below B w wr) (hB : hi ≤ B) :
    ∃ b off t, A = some ⟨b, off, none⟩ ∧ Hid (l[k]? = some t) ∧ lo ≤ b ∧ b < hi ∧ wr.cell? ⟨b, off + k * 2, none⟩ = some (.int .i64 t.irq) ∧ wr.cell? ⟨b, off + k * 2 + 1, none⟩ = some (.int .i64 t.prio) := by
  obtain ⟨b, off, t, hA, hx, h1, h2, h3⟩ := h.get hk hb hB
  exact ⟨b, off, t, hA, hx, h1, h2, h3 0 _ rfl, h3 1 _ rfl⟩
end Go.Proofs.YtaggjadgbmmjoaaGreatDoor

/- Comparing the urgency of two interrupts, in the program and in the reference. No condition. -/
namespace Go.Proofs.YtaggjadgbmmjoaaGreatDoor
open Go.RowKit Go.ChangeShapes Go.WideShapes Go.Deep

def Wt.lt (x y : Wt) : Bool := decide (x.prio < y.prio) || (decide (x.prio = y.prio) && decide (x.irq < y.irq))
def orI (a b : Int) : Int := if a = 0 then b else a
def urg (x y : Wt) : Int := orI (cmpI x.prio y.prio) (cmpI x.irq y.irq)
theorem urg_neg (x y : Wt) : urg x y < 0 ↔ x.lt y = true := by
  unfold urg orI cmpI Wt.lt
  simp only [Bool.or_eq_true, Bool.and_eq_true, decide_eq_true_eq]
  repeat' split
  all_goals omega
def Sl.wt (s : Sl) : Wt := ⟨s.irq, s.prio⟩

theorem cmpOr_any (v : Value) (a b : Int) (w : World) {lo hi : Nat} (h : Rd Nm.cells 1 w lo hi v [a, b]) (hh : hi ≤ w.heap.size) : Calls Tryz.prog 93 #[v] w fun e w' => e = .returned (.int .i64 (orI a b)) ∧ w = w' := by
  obtain ⟨A, n, c, rfl, H, hc, hm⟩ := h.form
  have hn : n = 2 := H.out
  subst hn
  obtain ⟨b0, off, x, rfl, hx, _, hbl, f0⟩ := Nm.get h (k := 0) (by omega) (Below.refl w.heap.size w) hh
  simp only [Nat.add_zero] at f0
  obtain ⟨_, _, y, e, hy, _, _, f1⟩ := Nm.get h (k := 1) (by omega) (Below.refl w.heap.size w) hh
  injection e with e
  injection e with e1 e2
  subst e1; subst e2
  obtain rfl : a = x := by simpa using hx.out
  obtain rfl : b = y := by simpa using hy.out
  go_enter Tryz.func93, Tryz.ntmps93
  go_wp2_with fail
  go_loop [8] (fun i => ∃ k : Nat, k ≤ 2 ∧ i = .int .i64 k ∧ Hid (0 < k → a = 0) ∧ Hid (1 < k → b = 0)) (fun i => 2 - (intOf i).toNat)
  case atStart => exact ⟨0, by omega, rfl, Lib.hid (fun h => by omega), Lib.hid (fun h => by omega)⟩
  case round =>
    obtain ⟨k, hk, rfl, h0, h1⟩ := hrel
    match k, hk, h0, h1 with
    | 0, _, _, _ =>
      by_cases ha : a = 0
      · have HA := Lib.hid ha
        rw [ha] at f0
        clear ha
        go_wp2_with fail
        go_round
        case rel => exact ⟨1, by omega, by go_num, Lib.hid (fun _ => HA.out), Lib.hid (fun h => by omega)⟩
        case measure => simp [intOf]
      · have HE := Lib.hid (show orI a b = a from by simp [orI, ha])
        go_wp2_with fail
        go_ret
        exact ⟨ret_int HE.out.symm, rfl⟩
    | 1, _, h0, _ =>
      have HA := Lib.hid (h0.out (by omega))
      by_cases hb : b = 0
      · have HB := Lib.hid hb
        rw [hb] at f1
        clear hb
        go_wp2_with fail
        go_round
        case rel => exact ⟨2, by omega, by go_num, Lib.hid (fun _ => HA.out), Lib.hid (fun _ => HB.out)⟩
        case measure => simp [intOf]
      · have HE := Lib.hid (show orI a b = b from by simp [orI, HA.out])
        go_wp2_with fail
        go_ret
        exact ⟨ret_int HE.out.symm, rfl⟩
    | 2, _, h0, h1 =>
      have HE := Lib.hid (show orI a b = 0 from by simp [orI, h0.out (by omega), h1.out (by omega)])
      go_wp2_with fail
      go_ret
      exact ⟨ret_int HE.out.symm, rfl⟩

theorem waiterOf_any (s : Sl) (w : World) : Calls Tryz.prog 78 #[s.val] w fun e w' => e = .returned s.wt.val ∧ Below w.heap.size w w' := by
  unfold Sl.wt Sl.val Wt.val
  go_enter Tryz.func78, Tryz.ntmps78
  go_wp2
  go_returns
  exact ⟨by simp, by go_grown⟩
theorem l8Less_any (p i q j : Int) (w : World) : Calls Tryz.prog 79 #[.int .i64 p, .int .i64 i, .int .i64 q, .int .i64 j] w fun e w' => e = .returned (.bool (Wt.lt ⟨i, p⟩ ⟨j, q⟩)) ∧ w = w' := by
  rcases Int.lt_trichotomy p q with h | h | h
  · have HE := Lib.hid (show Wt.lt ⟨i, p⟩ ⟨j, q⟩ = true from by simp [Wt.lt, h])
    go_enter Tryz.func79, Tryz.ntmps79
    go_wp2
    go_ret
    exact ⟨ret_bool HE.out.symm, rfl⟩
  · subst h
    have h1 : ¬ p < p := by omega
    by_cases hij : i < j
    · have HE := Lib.hid (show Wt.lt ⟨i, p⟩ ⟨j, p⟩ = true from by simp [Wt.lt, hij])
      go_enter Tryz.func79, Tryz.ntmps79
      go_wp2
      go_ret
      exact ⟨ret_bool (by rw [HE.out]), rfl⟩
    · have HE := Lib.hid (show Wt.lt ⟨i, p⟩ ⟨j, p⟩ = false from by simp [Wt.lt, hij])
      go_enter Tryz.func79, Tryz.ntmps79
      go_wp2
      go_ret
      exact ⟨ret_bool (by rw [HE.out]), rfl⟩
  · have h1 : ¬ p < q := by omega
    have h2 : ¬ p = q := by omega
    have HE := Lib.hid (show Wt.lt ⟨i, p⟩ ⟨j, q⟩ = false from by simp [Wt.lt, h1, h2])
    go_enter Tryz.func79, Tryz.ntmps79
    go_wp2
    go_ret
    exact ⟨ret_bool HE.out.symm, rfl⟩
theorem compareUrgency_any (x y : Wt) (w : World) : Calls Tryz.prog 77 #[x.val, y.val] w fun e w' => e = .returned (.int .i64 (urg x y)) ∧ Below w.heap.size w w' := by
  unfold urg Wt.val
  go_enter Tryz.func77, Tryz.ntmps77
  go_wp2_with fail
  have b0 : Below w.heap.size w ((w.alloc (.cells #[.int .i64 x.irq, .int .i64 x.prio] 87)).alloc (.cells #[.int .i64 y.irq, .int .i64 y.prio] 87)) := ((Below.refl w.heap.size w).alloc (Nat.le_refl _) _).alloc (by simp) _
  have k0 : ((w.alloc (.cells #[.int .i64 x.irq, .int .i64 x.prio] 87)).alloc (.cells #[.int .i64 y.irq, .int .i64 y.prio] 87)).cell? ⟨w.heap.size, 0, none⟩ = some (.int .i64 x.irq) := by simp
  have k1 : ((w.alloc (.cells #[.int .i64 x.irq, .int .i64 x.prio] 87)).alloc (.cells #[.int .i64 y.irq, .int .i64 y.prio] 87)).cell? ⟨w.heap.size, 1, none⟩ = some (.int .i64 x.prio) := by simp
  have k2 : ((w.alloc (.cells #[.int .i64 x.irq, .int .i64 x.prio] 87)).alloc (.cells #[.int .i64 y.irq, .int .i64 y.prio] 87)).cell? ⟨w.heap.size + 1, 0, none⟩ = some (.int .i64 y.irq) := by simp
  have k3 : ((w.alloc (.cells #[.int .i64 x.irq, .int .i64 x.prio] 87)).alloc (.cells #[.int .i64 y.irq, .int .i64 y.prio] 87)).cell? ⟨w.heap.size + 1, 1, none⟩ = some (.int .i64 y.prio) := by simp
  generalize (w.alloc _).alloc _ = w0 at b0 k0 k1 k2 k3 ⊢
  have e0 := cell_ext k0; have e1 := cell_ext k1; have e2 := cell_ext k2; have e3 := cell_ext k3
  refine wp_region_ext 10 (by kernel_rfl) (by kernel_rfl) ?_
  simp only [List.take_succ_cons, List.take_zero, List.drop_succ_cons, List.drop_zero]
  repeat (go_big_quiet_step ((go_at_call 94; exact calls_ext0 ((compare_any _ _ _).mono fun _ _ h => ⟨h.1, h.2.symm⟩))))
  refine wpQuiet_nil ?_
  intro w3 b3
  clear e0 e1 e2 e3 k0 k1 k2 k3
  go_wp2_with fail
  have hr : Rd Nm.cells 1 (w3.alloc (.cells #[.int .i64 (cmpI x.prio y.prio), .int .i64 (cmpI x.irq y.irq)] 3)) w3.heap.size (w3.heap.size + 1) (.slice (some ⟨w3.heap.size, 0, none⟩) 2 2) [cmpI x.prio y.prio, cmpI x.irq y.irq] := by
    refine ⟨some ⟨w3.heap.size, 0, none⟩, 2, rfl, by simp, by unfold maxLen; omega, fun _ => ⟨w3.heap.size, 0, rfl, Nat.le_refl _, by omega, fun i z hi j u hu => ?_⟩⟩
    match i, j with
    | 0, 0 => simp at hi; subst hi; simp [Nm.cells] at hu; subst hu; simp
    | 1, 0 => simp at hi; subst hi; simp [Nm.cells] at hu; subst hu; simp
    | i + 2, _ => simp at hi
    | _, j + 1 => simp [Nm.cells] at hu
  have c3 := cmpOr_any _ _ _ _ hr (by simp)
  refine c3.mono ?_; rintro e w4 ⟨rfl, rfl⟩
  have z0 := b0.size
  have z3 := b3.size
  go_wp2_with fail
  go_ret
  exact ⟨rfl, (b0.trans (b3.mono z0)).alloc (by omega) _⟩

end Go.Proofs.YtaggjadgbmmjoaaGreatDoor

/- The pending slot with the most or the least urgent interrupt, in the reference. No condition. -/
namespace Go.Proofs.YtaggjadgbmmjoaaGreatDoor
open Go.RowKit Go.ChangeShapes Go.WideShapes Go.Deep

def Sl.bt (most : Bool) (s b : Sl) : Bool := (most && s.wt.lt b.wt) || (!most && b.wt.lt s.wt)
def Sl.bestIf (most : Bool) (l : List Sl) (b : Int) (s : Sl) : Bool := s.state == 1 && (decide (b < 0) || Sl.bt most s (l.getD b.toNat default))
def Sl.best (most : Bool) (l : List Sl) : Nat → Int
  | 0 => -1
  | k + 1 => match l[k]? with
    | none => Sl.best most l k
    | some s => if Sl.bestIf most l (Sl.best most l k) s then k else Sl.best most l k
theorem Sl.best_succ {most : Bool} {l : List Sl} {k : Nat} {s : Sl} (h : l[k]? = some s) : Sl.best most l (k + 1) = if Sl.bestIf most l (Sl.best most l k) s then (k : Int) else Sl.best most l k := by
  rw [Sl.best, h]
theorem Sl.best_bd (most : Bool) (l : List Sl) : ∀ k : Nat, k ≤ l.length → Sl.best most l k = -1 ∨ ∃ (j : Nat) (u : Sl), Sl.best most l k = j ∧ j < k ∧ l[j]? = some u ∧ u.state = 1
  | 0, _ => .inl rfl
  | k + 1, h => by
    have hs : l[k]? = some (l[k]'(by omega)) := List.getElem?_eq_getElem _
    rw [Sl.best_succ hs]
    split
    · rename_i hq
      right
      exact ⟨k, _, rfl, by omega, hs, by simp only [Sl.bestIf, Bool.and_eq_true, beq_iff_eq] at hq; exact hq.1⟩
    · rcases Sl.best_bd most l k (by omega) with h1 | ⟨j, u, h1, h2, h3⟩
      · exact .inl h1
      · exact .inr ⟨j, u, h1, by omega, h3⟩
theorem Sl.good_ne {l : List Sl} (h : Sl.good l = true) {j k : Nat} {u s : Sl} (hjk : j < k) (hu : l[j]? = some u) (hs : l[k]? = some s) (h1 : ¬ u.state = 0) (h2 : ¬ s.state = 0) : ¬ u.irq = s.irq := by
  have h3 := Sl.good_one h hs
  simp only [Sl.okAt, if_neg h2, Bool.and_eq_true, Bool.not_eq_true'] at h3
  intro e
  have := List.any_eq_false.1 h3.2.2.2 u (List.mem_of_getElem? (by rw [List.getElem?_take, if_pos hjk]; exact hu))
  simp [Sl.has, h1, e] at this

theorem waiterOf_at (a b c : Int) (w : World) : Calls Tryz.prog 78 #[.agg #[.int .i64 a, .int .i64 b, .int .i64 c]] w fun e w' => e = .returned (.agg #[.int .i64 b, .int .i64 c]) ∧ Below w.heap.size w w' := waiterOf_any ⟨a, b, c⟩ w
theorem compareUrgency_at (i p j q : Int) (w : World) : Calls Tryz.prog 77 #[.agg #[.int .i64 i, .int .i64 p], .agg #[.int .i64 j, .int .i64 q]] w fun e w' => e = .returned (.int .i64 (urg ⟨i, p⟩ ⟨j, q⟩)) ∧ Below w.heap.size w w' := compareUrgency_any ⟨i, p⟩ ⟨j, q⟩ w

set_option maxHeartbeats 2000000 in
theorem l8Best_any (v : Value) (l : List Sl) (most : Bool) (w : World) {lo hi : Nat} (h : Rd Sl.cells 3 w lo hi v l) (hh : hi ≤ w.heap.size) : Calls Tryz.prog 65 #[v, .bool most] w fun e w' => e = .returned (.int .i64 (Sl.best most l l.length)) ∧ Below w.heap.size w w' := by
  have hrd := h
  obtain ⟨A, n, c, rfl, H, hc, hm⟩ := h.form
  clear h
  go_enter Tryz.func65, Tryz.ntmps65
  go_wp2_with fail
  go_loopw [5, 6] (fun q i wr => ∃ k : Nat, k ≤ n ∧ i = .int .i64 k ∧ q = .int .i64 (Sl.best most l k) ∧ Below w.heap.size w wr) (fun _ i _ => n - (intOf i).toNat)
  case atStart => exact ⟨0, Nat.zero_le _, rfl, rfl, Below.refl _ _⟩
  case round =>
    obtain ⟨k, hk, rfl, rfl, hb⟩ := hrel
    by_cases hlt : k < n
    · obtain ⟨b, off, s, rfl, hs, _, hbl, f0, f1, f2⟩ := Sl.get hrd hlt hb hh
      have hbs := hb.size
      have hbw : b < wr.heap.size := by omega
      have hb2 := hb.alloc hb.size (.cells #[.int .i64 s.state, .int .i64 s.irq, .int .i64 s.prio] 34)
      have hN := Sl.best_succ (most := most) hs.out
      by_cases h1 : s.state = 1
      · rw [h1] at f0 hb2
        rcases Sl.best_bd most l k (by have := H.out; omega) with hbd | ⟨j, u, hbd, hj, hu, _⟩
        · have HN := Lib.hid (show Sl.best most l (k + 1) = k from by rw [hN, hbd]; simp [Sl.bestIf, h1])
          rw [hbd]
          clear hN hbd h1
          go_wp2_with fail
          go_quiet (fail)
          go_wp2_with fail
          go_roundw
          case rel => exact ⟨k + 1, by omega, by go_num, by rw [HN.out], below_drewN hb2 _⟩
          case measure => simp [intOf]; omega
        · obtain ⟨_, _, u', e, hu', _, _, g0, g1, g2⟩ := Sl.get hrd (k := j) (by omega) hb hh
          injection e with e
          injection e with e1 e2
          subst e1; subst e2
          obtain rfl : u = u' := Option.some.inj (hu.symm.trans hu'.out)
          have hj0 : decide ((j : Int) < 0) = false := by simp
          have hjn : (j : Int) < (n : Int) := by omega
          have HN := Lib.hid (show Sl.best most l (k + 1) = if Sl.bt most s u then (k : Int) else j from by
            have hj1 : ¬ (j : Int) < 0 := by omega
            rw [hN, hbd]; simp [Sl.bestIf, h1, hu, hj1])
          rw [hbd]
          clear hN hbd h1 hu hu'
          cases most
          · have c2 := fun W => l8Less_any u.prio u.irq s.prio s.irq W
            cases hq : Wt.lt ⟨u.irq, u.prio⟩ ⟨s.irq, s.prio⟩
            · rw [hq] at c2
              have HM := Lib.hid (show Sl.best false l (k + 1) = j from by rw [HN.out]; simp [Sl.bt, Sl.wt, hq])
              clear hq HN
              go_wp2_with fail
              go_quiet ((go_at_call 79; refine Calls.quiet_of_same ((c2 _).mono fun _ _ h => ⟨h.1, h.2.symm⟩)))
              go_wp2_with fail
              go_roundw
              case rel => exact ⟨k + 1, by omega, by go_num, by rw [HM.out], below_drewN hb2 _⟩
              case measure => simp [intOf]; omega
            · rw [hq] at c2
              have HM := Lib.hid (show Sl.best false l (k + 1) = k from by rw [HN.out]; simp [Sl.bt, Sl.wt, hq])
              clear hq HN
              go_wp2_with fail
              go_quiet ((go_at_call 79; refine Calls.quiet_of_same ((c2 _).mono fun _ _ h => ⟨h.1, h.2.symm⟩)))
              go_wp2_with fail
              go_roundw
              case rel => exact ⟨k + 1, by omega, by go_num, by rw [HM.out], below_drewN hb2 _⟩
              case measure => simp [intOf]; omega
          · have c2 := fun W => l8Less_any s.prio s.irq u.prio u.irq W
            cases hq : Wt.lt ⟨s.irq, s.prio⟩ ⟨u.irq, u.prio⟩
            · rw [hq] at c2
              have HM := Lib.hid (show Sl.best true l (k + 1) = j from by rw [HN.out]; simp [Sl.bt, Sl.wt, hq])
              clear hq HN
              go_wp2_with fail
              go_quiet ((go_at_call 79; refine Calls.quiet_of_same ((c2 _).mono fun _ _ h => ⟨h.1, h.2.symm⟩)))
              go_wp2_with fail
              go_roundw
              case rel => exact ⟨k + 1, by omega, by go_num, by rw [HM.out], below_drewN hb2 _⟩
              case measure => simp [intOf]; omega
            · rw [hq] at c2
              have HM := Lib.hid (show Sl.best true l (k + 1) = k from by rw [HN.out]; simp [Sl.bt, Sl.wt, hq])
              clear hq HN
              go_wp2_with fail
              go_quiet ((go_at_call 79; refine Calls.quiet_of_same ((c2 _).mono fun _ _ h => ⟨h.1, h.2.symm⟩)))
              go_wp2_with fail
              go_roundw
              case rel => exact ⟨k + 1, by omega, by go_num, by rw [HM.out], below_drewN hb2 _⟩
              case measure => simp [intOf]; omega
      · have HN := Lib.hid (show Sl.best most l (k + 1) = Sl.best most l k from by rw [hN]; simp [Sl.bestIf, h1])
        clear hN
        generalize Sl.best most l k = q at *
        go_wp2_with fail
        go_roundw
        case rel => exact ⟨k + 1, by omega, by go_num, by rw [HN.out], hb2⟩
        case measure => simp [intOf]; omega
    · have hkn : k = n := by omega
      have HE := Lib.hid (show Sl.best most l k = Sl.best most l l.length from by rw [hkn, H.out])
      go_wp2_with fail
      go_ret
      exact ⟨ret_int HE.out, hb⟩

end Go.Proofs.YtaggjadgbmmjoaaGreatDoor

/- Putting a number that is not there yet into a rising list, in the reference: condition: the number is not in the list, and the list has at most 1048576 elements. -/
namespace Go.Proofs.YtaggjadgbmmjoaaGreatDoor
open Go.RowKit Go.ChangeShapes Go.WideShapes Go.Deep

/-- how many leading numbers are below x -/
def lead (x : Int) : List Int → Nat
  | [] => 0
  | y :: l => if y < x then lead x l + 1 else 0
theorem lead_le (x : Int) : ∀ l : List Int, lead x l ≤ l.length
  | [] => Nat.le_refl _
  | y :: l => by have := lead_le x l; simp only [lead, List.length_cons]; split <;> omega
theorem lead_at (x : Int) : ∀ (l : List Int) (k : Nat) (y : Int), k ≤ lead x l → l[k]? = some y → (y < x ↔ k < lead x l)
  | [], k, y, _, h => by simp at h
  | z :: l, 0, y, _, h => by
    simp at h; subst h
    simp only [lead]; split <;> simp_all
  | z :: l, k + 1, y, hk, h => by
    simp only [lead] at hk ⊢
    split at hk
    · rename_i hz
      rw [if_pos hz]
      have := lead_at x l k y (by omega) (by simpa using h)
      omega
    · omega
def putL (x : Int) (l : List Int) : List Int := l.take (lead x l) ++ x :: l.drop (lead x l)
theorem putL_len (x : Int) (l : List Int) : (putL x l).length = l.length + 1 := by
  have := lead_le x l
  simp only [putL, List.length_append, List.length_take, List.length_cons, List.length_drop]; omega


end Go.Proofs.YtaggjadgbmmjoaaGreatDoor

/- Strictly ascending lists of numbers: plain law. No condition. -/
namespace Go.Proofs.YtaggjadgbmmjoaaGreatDoor

theorem asc_ext : ∀ (a b : List Int), a.Pairwise (· < ·) → b.Pairwise (· < ·) → (∀ x, x ∈ a ↔ x ∈ b) → a = b
  | [], [], _, _, _ => rfl
  | [], y :: b, _, _, h => by have := (h y).2 (by simp); simp at this
  | x :: a, [], _, _, h => by have := (h x).1 (by simp); simp at this
  | x :: a, y :: b, ha, hb, h => by
    rw [List.pairwise_cons] at ha hb
    have h1 := (h x).1 (by simp)
    have h2 := (h y).2 (by simp)
    simp only [List.mem_cons] at h1 h2
    have hxy : x = y := by
      rcases h1 with h1 | h1
      · exact h1
      · rcases h2 with h2 | h2
        · exact h2.symm
        · have := hb.1 x h1; have := ha.1 y h2; omega
    subst hxy
    congr 1
    refine asc_ext a b ha.2 hb.2 (fun z => ⟨fun hz => ?_, fun hz => ?_⟩)
    · have h3 := (h z).1 (List.mem_cons_of_mem _ hz)
      rcases List.mem_cons.1 h3 with h3 | h3
      · have := ha.1 z hz; omega
      · exact h3
    · have h3 := (h z).2 (List.mem_cons_of_mem _ hz)
      rcases List.mem_cons.1 h3 with h3 | h3
      · have := hb.1 z hz; omega
      · exact h3

theorem putL_cons (x y : Int) (l : List Int) : putL x (y :: l) = if y < x then y :: putL x l else x :: y :: l := by
  simp only [putL, lead]
  split <;> simp
theorem mem_putL (x y : Int) : ∀ l : List Int, y ∈ putL x l ↔ y = x ∨ y ∈ l
  | [] => by simp [putL]
  | z :: l => by
    rw [putL_cons]
    split
    · simp only [List.mem_cons, mem_putL x y l]
      constructor
      · rintro (h | h | h)
        · exact .inr (.inl h)
        · exact .inl h
        · exact .inr (.inr h)
      · rintro (h | h | h)
        · exact .inr (.inl h)
        · exact .inl h
        · exact .inr (.inr h)
    · simp
theorem putL_asc (x : Int) : ∀ l : List Int, l.Pairwise (· < ·) → x ∉ l → (putL x l).Pairwise (· < ·)
  | [], _, _ => by simp [putL]
  | y :: l, h, hx => by
    rw [List.pairwise_cons] at h
    simp only [List.mem_cons, not_or] at hx
    rw [putL_cons]
    split
    · rename_i hy
      rw [List.pairwise_cons]
      refine ⟨fun z hz => ?_, putL_asc x l h.2 hx.2⟩
      rcases (mem_putL x z l).1 hz with rfl | hz
      · exact hy
      · exact h.1 z hz
    · rename_i hy
      rw [List.pairwise_cons]
      refine ⟨fun z hz => ?_, List.pairwise_cons.2 h⟩
      rcases List.mem_cons.1 hz with rfl | hz
      · omega
      · have := h.1 z hz; omega
/-- the numbers f of those elements that p holds of, put in one by one, each once -/
def accS {α : Type} (p : α → Bool) (f : α → Int) (acc : List Int) (x : α) : List Int := if p x && !acc.contains (f x) then putL (f x) acc else acc
def accL {α : Type} (p : α → Bool) (f : α → Int) (l : List α) : List Int := l.foldl (accS p f) []
section
variable {α : Type} (p : α → Bool) (f : α → Int)
theorem accG : ∀ (l : List α) (acc : List Int), acc.Pairwise (· < ·) →
    (l.foldl (accS p f) acc).Pairwise (· < ·) ∧ (∀ y, y ∈ l.foldl (accS p f) acc ↔ (∃ x ∈ l, p x = true ∧ f x = y) ∨ y ∈ acc) ∧ (l.foldl (accS p f) acc).length ≤ l.length + acc.length
  | [], acc, h => ⟨h, by simp, by simp⟩
  | x :: l, acc, h => by
    simp only [List.foldl_cons]
    cases hc : p x && !acc.contains (f x)
    · have hs : accS p f acc x = acc := by simp only [accS, hc]; rfl
      rw [hs]
      have := accG l acc h
      refine ⟨this.1, fun y => ?_, by have := this.2.2; rw [List.length_cons]; omega⟩
      rw [this.2.1 y]
      simp only [Bool.and_eq_false_iff, Bool.not_eq_false', List.contains_iff_mem] at hc
      constructor
      · rintro (⟨z, hz, h3⟩ | h3)
        · exact .inl ⟨z, List.mem_cons_of_mem _ hz, h3⟩
        · exact .inr h3
      · rintro (⟨z, hz, h3, h4⟩ | h3)
        · rcases List.mem_cons.1 hz with rfl | hz
          · rcases hc with hc | hc
            · rw [hc] at h3; cases h3
            · exact .inr (h4 ▸ hc)
          · exact .inl ⟨z, hz, h3, h4⟩
        · exact .inr h3
    · have hs : accS p f acc x = putL (f x) acc := by simp only [accS, hc]; rfl
      rw [hs]
      simp only [Bool.and_eq_true, Bool.not_eq_true', List.contains_eq_mem, decide_eq_false_iff_not] at hc
      have := accG l (putL (f x) acc) (putL_asc _ _ h hc.2)
      refine ⟨this.1, fun y => ?_, by have := this.2.2; rw [putL_len] at this; rw [List.length_cons]; omega⟩
      rw [this.2.1 y, mem_putL]
      constructor
      · rintro (⟨z, hz, h3⟩ | h3 | h3)
        · exact .inl ⟨z, List.mem_cons_of_mem _ hz, h3⟩
        · exact .inl ⟨x, by simp, hc.1, h3.symm⟩
        · exact .inr h3
      · rintro (⟨z, hz, h3, h4⟩ | h3)
        · rcases List.mem_cons.1 hz with rfl | hz
          · exact .inr (.inl h4.symm)
          · exact .inl ⟨z, hz, h3, h4⟩
        · exact .inr (.inr h3)
theorem accL_asc (l : List α) : (accL p f l).Pairwise (· < ·) := (accG p f l [] List.Pairwise.nil).1
theorem accL_mem (l : List α) (y : Int) : y ∈ accL p f l ↔ ∃ x ∈ l, p x = true ∧ f x = y := by
  have := (accG p f l [] List.Pairwise.nil).2.1 y
  rw [accL, this]; simp
theorem accL_len (l : List α) : (accL p f l).length ≤ l.length := by
  have := (accG p f l [] List.Pairwise.nil).2.2
  exact this
end

end Go.Proofs.YtaggjadgbmmjoaaGreatDoor

/- Insertion into a list from its end, and sorting by it: plain law. No condition. -/
namespace Go.Proofs.YtaggjadgbmmjoaaGreatDoor

section
variable {α : Type} (lt : α → α → Bool)
/-- where x comes to stand in l, walked from the end: behind the last element that x is not before -/
def bk (x : α) : List α → Nat
  | [] => 0
  | y :: l => if bk x l = 0 && lt x y then 0 else bk x l + 1
/-- x, inserted into l from the end -/
def insK (l : List α) (x : α) : List α := l.take (bk lt x l) ++ x :: l.drop (bk lt x l)
/-- sorting by insertion: elements that are alike keep their order -/
def sortK (l : List α) : List α := l.foldl (insK lt) []
variable {lt}
theorem bk_le (x : α) : ∀ l : List α, bk lt x l ≤ l.length
  | [] => Nat.le_refl _
  | y :: l => by have := bk_le x l; simp only [bk, List.length_cons]; split <;> omega
theorem bk_eq (x : α) : ∀ (l : List α) (k : Nat), k ≤ l.length → (∀ (j : Nat) (y : α), k ≤ j → l[j]? = some y → lt x y = true) → (∀ (j : Nat) (y : α), k = j + 1 → l[j]? = some y → lt x y = false) → bk lt x l = k
  | [], k, hk, _, _ => by simp at hk; simp [bk, hk]
  | z :: l, 0, _, h1, _ => by
    have := bk_eq x l 0 (Nat.zero_le _) (fun j y _ hj => h1 (j + 1) y (Nat.zero_le _) (by simpa using hj)) (fun j y h => by omega)
    simp [bk, this, h1 0 z (Nat.le_refl _) (by simp)]
  | z :: l, k + 1, hk, h1, h2 => by
    have hk' : k ≤ l.length := by simpa using hk
    have := bk_eq x l k hk' (fun j y hj hy => h1 (j + 1) y (by omega) (by simpa using hy)) (fun j y hj hy => h2 (j + 1) y (by omega) (by simpa using hy))
    simp only [bk, this]
    by_cases h0 : k = 0
    · subst h0
      simp [h2 0 z rfl (by simp)]
    · simp [h0]
theorem insK_len (l : List α) (x : α) : (insK lt l x).length = l.length + 1 := by
  have := bk_le (lt := lt) x l
  simp only [insK, List.length_append, List.length_take, List.length_cons, List.length_drop]; omega
theorem insK_mem {l : List α} {x y : α} (h : y ∈ insK lt l x) : y = x ∨ y ∈ l := by
  simp only [insK, List.mem_append, List.mem_cons] at h
  rcases h with h | h | h
  · exact .inr (List.mem_of_mem_take h)
  · exact .inl h
  · exact .inr (List.mem_of_mem_drop h)
theorem mem_insK {l : List α} {x y : α} (h : y = x ∨ y ∈ l) : y ∈ insK lt l x := by
  simp only [insK, List.mem_append, List.mem_cons]
  rcases h with h | h
  · exact .inr (.inl h)
  · rw [← List.take_append_drop (bk lt x l) l, List.mem_append] at h
    rcases h with h | h
    · exact .inl h
    · exact .inr (.inr h)
theorem foldIns_mem {y : α} : ∀ (l acc : List α), y ∈ l.foldl (insK lt) acc ↔ y ∈ l ∨ y ∈ acc
  | [], acc => by simp
  | x :: l, acc => by
    simp only [List.foldl_cons, foldIns_mem l, List.mem_cons]
    constructor
    · rintro (h | h)
      · exact .inl (.inr h)
      · rcases insK_mem h with h | h
        · exact .inl (.inl h)
        · exact .inr h
    · rintro ((h | h) | h)
      · exact .inr (mem_insK (.inl h))
      · exact .inl h
      · exact .inr (mem_insK (.inr h))
theorem foldIns_len : ∀ (l acc : List α), (l.foldl (insK lt) acc).length = l.length + acc.length
  | [], acc => by simp
  | x :: l, acc => by simp only [List.foldl_cons, foldIns_len l, insK_len, List.length_cons]; omega
theorem sortK_mem {l : List α} {y : α} : y ∈ sortK lt l ↔ y ∈ l := by simp [sortK, foldIns_mem]
theorem sortK_len (l : List α) : (sortK lt l).length = l.length := by simp [sortK, foldIns_len]
theorem sortK_snoc (l : List α) (x : α) : sortK lt (l ++ [x]) = insK lt (sortK lt l) x := by simp [sortK]
theorem sortK_pre {l : List α} {k : Nat} {x : α} (h : l[k]? = some x) : sortK lt (l.take (k + 1)) = insK lt (sortK lt (l.take k)) x := by
  rw [List.take_add_one, h]; exact sortK_snoc _ _

/-- while x walks forward: x stands at place j of the first ones -/
def walkK (l : List α) (x : α) (j : Nat) : List α := l.take j ++ x :: l.drop j
theorem walkK_end (l : List α) (x : α) : walkK l x l.length = l ++ [x] := by simp [walkK]
theorem walkK_at {l : List α} {x : α} {j : Nat} (hj : j ≤ l.length) : (walkK l x j)[j]? = some x := by
  have hl : (l.take j).length = j := by rw [List.length_take]; omega
  rw [walkK, List.getElem?_append_right (by omega), hl, Nat.sub_self]; rfl
theorem walkK_before {l : List α} {x : α} {j : Nat} (hj : j < l.length) : (walkK l x (j + 1))[j]? = l[j]? := by
  have hl : (l.take (j + 1)).length = j + 1 := by rw [List.length_take]; omega
  rw [walkK, List.getElem?_append_left (by omega), List.getElem?_take, if_pos (by omega)]
theorem walkK_step {l rest : List α} {x y : α} {j : Nat} (hy : l[j]? = some y) : (((walkK l x (j + 1) ++ rest).set (j + 1) y).set j x) = walkK l x j ++ rest := by
  obtain ⟨hj, rfl⟩ := List.getElem?_eq_some_iff.1 hy
  have hl : (l.take j).length = j := by rw [List.length_take]; omega
  have h1 : walkK l x (j + 1) ++ rest = l.take j ++ (l[j] :: x :: (l.drop (j + 1) ++ rest)) := by
    rw [walkK, List.take_succ_eq_append_getElem hj]; simp only [List.append_assoc, List.cons_append, List.nil_append]
  have h2 : walkK l x j ++ rest = l.take j ++ (x :: l[j] :: (l.drop (j + 1) ++ rest)) := by
    rw [walkK, List.drop_eq_getElem_cons hj]; simp only [List.append_assoc, List.cons_append]
  rw [h1, h2, List.set_append_right _ _ (by omega), hl, show j + 1 - j = 1 by omega, List.set_append_right _ _ (by omega), hl, Nat.sub_self]
  rfl
theorem walkK_ins {l : List α} {x : α} {j : Nat} (h : bk lt x l = j) : walkK l x j = insK lt l x := by subst h; rfl
end

end Go.Proofs.YtaggjadgbmmjoaaGreatDoor

/- Sorting a short list of numbers by insertion, as the library does it. No condition on the numbers. -/
namespace Go.Proofs.YtaggjadgbmmjoaaGreatDoor
open Go.RowKit Go.ChangeShapes Go.WideShapes Go.Deep

def ltI (x y : Int) : Bool := decide (x < y)
theorem less_any (x y : Int) (w : World) : Calls Tryz.prog 101 #[.int .i64 x, .int .i64 y] w fun e w' => e = .returned (.bool (ltI x y)) ∧ w' = w := by
  by_cases h : x < y
  · have HE := Lib.hid (show ltI x y = true from decide_eq_true h)
    go_enter Tryz.func101, Tryz.ntmps101
    go_wp2
    go_ret
    exact ⟨ret_bool (by rw [HE.out]), rfl⟩
  · have HE := Lib.hid (show ltI x y = false from decide_eq_false h)
    go_enter Tryz.func101, Tryz.ntmps101
    go_wp2
    go_ret
    exact ⟨ret_bool (by rw [HE.out]), rfl⟩

set_option maxHeartbeats 1000000 in
theorem isortO_any (w0 : World) (v : Value) (l : List Int) (n : Nat) (hn : n = l.length) (w : World) {hi : Nat} (hb0 : Below w0.heap.size w0 w)
    (h : Ow Nm.cells 1 3 w w0.heap.size hi v l) (hh : hi ≤ w.heap.size) :
    Calls Tryz.prog 95 #[v, .int .i64 0, .int .i64 n] w fun e w' => e = .returned (.tuple #[]) ∧ Ow Nm.cells 1 3 w' w0.heap.size hi v (sortK ltI l) ∧ hi ≤ w'.heap.size ∧ Below w0.heap.size w0 w' := by
  obtain ⟨A, n', c, rfl, H, hc, hm⟩ := h.rd.form
  obtain rfl : n' = n := H.out.trans hn.symm
  clear hn
  go_enter Tryz.func95, Tryz.ntmps95
  go_wp2_with fail
  go_loopw [6] (fun i wr => ∃ (k : Nat) (ik : Int), i = .int .i64 ik ∧ Hid (ik = k + 1) ∧ k ≤ n' ∧ Below w0.heap.size w0 wr ∧ hi ≤ wr.heap.size ∧ Ow Nm.cells 1 3 wr w0.heap.size hi (.slice A n' c) (sortK ltI (l.take (k + 1)) ++ l.drop (k + 1))) (fun i _ => n' + 1 - (intOf i).toNat)
  case atStart =>
    refine ⟨0, 1, rfl, Lib.hid (by simp), Nat.zero_le _, hb0, hh, ?_⟩
    have : sortK ltI (l.take 1) ++ l.drop 1 = l := by
      cases l with
      | nil => rfl
      | cons x l => simp [sortK, insK, bk]
    rw [this]; exact h
  case round =>
    obtain ⟨k, ik, rfl, HI, hk, hb, hh2, ow⟩ := hrel
    clear hb0 h hh
    have hik0 : 0 < ik := by have := HI.out; omega
    by_cases hlt : ik < (n' : Int)
    · have hlt1 : k + 1 < n' := by have := HI.out; omega
      have hd0 : decide (ik < (n' : Int)) = true := decide_eq_true hlt
      have hkl : k + 1 < l.length := by rw [← H.out]; exact hlt1
      have HS := Lib.hid (show ∀ y, y ∈ sortK ltI (l.take (k + 1)) → y ∈ l from fun y hy => List.mem_of_mem_take (sortK_mem.1 hy))
      have hSl : (sortK ltI (l.take (k + 1))).length = k + 1 := by rw [sortK_len, List.length_take]; omega
      have HX := Lib.hid (show sortK ltI (l.take (k + 1 + 1)) = insK ltI (sortK ltI (l.take (k + 1))) (l[k + 1]) from sortK_pre (List.getElem?_eq_getElem hkl))
      have HM := Lib.hid (show l[k + 1] ∈ l from List.getElem_mem hkl)
      rw [List.drop_eq_getElem_cons hkl] at ow
      generalize sortK ltI (l.take (k + 1)) = S at *
      generalize l[k + 1] = x at *
      obtain ⟨rest, HR⟩ : ∃ rest, Hid (l.drop (k + 1 + 1) = rest) := ⟨_, Lib.hid rfl⟩
      rw [HR.out] at ow
      have ow2 : Ow Nm.cells 1 3 wr w0.heap.size hi (.slice A n' c) (walkK S x (k + 1) ++ rest) := by
        rw [← hSl, walkK_end]; simpa using ow
      clear ow
      go_wp2_with fail
      go_loopw [7] (fun j w2 => ∃ m : Nat, j = .int .i64 m ∧ m ≤ k + 1 ∧ Below w0.heap.size w0 w2 ∧ hi ≤ w2.heap.size ∧ Ow Nm.cells 1 3 w2 w0.heap.size hi (.slice A n' c) (walkK S x m ++ rest) ∧ Hid (∀ (j : Nat) (y : Int), m ≤ j → S[j]? = some y → ltI x y = true)) (fun j _ => (intOf j).toNat)
      case atStart => exact ⟨k + 1, by rw [HI.out]; rfl, Nat.le_refl _, hb, hh2, ow2, Lib.hid (fun j y hj hy => by rw [List.getElem?_eq_none (by omega)] at hy; cases hy)⟩
      case round =>
        obtain ⟨m, rfl, hm2, hb3, hh3, ow3, HJ⟩ := hrel
        clear hb hh2 ow2
        by_cases hm0 : m = 0
        · subst hm0
          have HQ := Lib.hid (show walkK S x 0 = insK ltI S x from walkK_ins (bk_eq x S 0 (Nat.zero_le _) HJ.out (fun j y h => by omega)))
          have hd : decide ((0 : Int) < ((0 : Nat) : Int)) = false := by simp
          go_wp2_with fail
          go_quiet (fail)
          go_wp2_with fail
          go_roundw
          case rel => exact ⟨k + 1, ik + 1, by go_num, Lib.hid (by rw [HI.out]; simp), by omega, below_drewN hb3 _, hh3, by rw [HX.out, ← HQ.out, HR.out]; exact ow3.drewN _⟩
          case measure => simp [intOf] <;> omega
        · obtain ⟨m', rfl⟩ : ∃ m', m = m' + 1 := ⟨m - 1, by omega⟩
          clear hm0
          have hmS : m' < S.length := by omega
          have hyS : S[m']? = some S[m'] := List.getElem?_eq_getElem hmS
          have hyl := HS.out _ (List.getElem_mem hmS)
          generalize S[m'] = y at hyS hyl
          obtain ⟨b, off, x1, rfl, hx1, _, hbl, f0⟩ := Nm.get ow3.rd (k := m' + 1) (by omega) (Below.refl wr.heap.size wr) hh3
          obtain ⟨_, _, y1, e, hy1, _, _, f1⟩ := Nm.get ow3.rd (k := m') (by omega) (Below.refl wr.heap.size wr) hh3
          injection e with e
          injection e with e1 e2
          subst e1; subst e2
          have hwl : (walkK S x (m' + 1)).length = k + 2 := by simp [walkK, hSl]; omega
          obtain rfl : x1 = x := by
            have := hx1.out
            rw [List.getElem?_append_left (by omega), walkK_at (by omega)] at this
            exact (Option.some.inj this).symm
          obtain rfl : y1 = y := by
            have := hy1.out
            rw [List.getElem?_append_left (by omega), walkK_before hmS, hyS] at this
            exact (Option.some.inj this).symm
          have hz := ow3.frozen (by omega)
          have c1 := fun n => less_any x1 y1 (wr.drewN n)
          have hd : decide ((0 : Int) < ((m' + 1 : Nat) : Int)) = true := by simp
          have hi1 : ((m' + 1 : Nat) : Int) < (n' : Int) := by omega
          by_cases hq : ltI x1 y1 = true
          · rw [hq] at c1
            have HW := Lib.hid (walkK_step (rest := rest) (x := x1) hyS)
            have HJ2 := Lib.hid (show ∀ (j : Nat) (y : Int), m' ≤ j → S[j]? = some y → ltI x1 y = true from fun j y hj hy => by
              by_cases hjm : j = m'
              · subst hjm; rw [hyS] at hy; exact (Option.some.inj hy) ▸ hq
              · exact HJ.out j y (by omega) hy)
            clear hq hyS HJ
            go_wp2_with fail
            go_quiet ((go_at_call 101; refine Calls.quiet_of_same (c1 _)))
            go_wp2_with fail
            go_region
            generalize hw : World.setCell (World.setCell _ _ _) _ _ = w3
            obtain rfl : w3 = setL (setL (wr.drewN (nq + 1)) b (off + (m' + 1)) [.int .i64 y1]) b (off + m') [.int .i64 x1] := hw.symm
            clear hw
            have o1 := ow3.drewN (nq + 1)
            have u1 : Upd 3 1 (wr.drewN (nq + 1)) (setL (wr.drewN (nq + 1)) b (off + (m' + 1)) [.int .i64 y1]) b (off + (m' + 1) * 1) (Nm.cells x1) (Nm.cells y1) := by
              have := Upd.of_setL (E := 3) (sz := 1) (w := wr.drewN (nq + 1)) (b := b) (o := off + (m' + 1)) (xs := Nm.cells x1) (ys' := Nm.cells y1) (ys := [.int .i64 y1]) 0 rfl rfl (by simp)
              simpa using this
            have o2 := o1.upd Nm.cells_len (by omega) hx1.out u1
            have u2 : Upd 3 1 (setL (wr.drewN (nq + 1)) b (off + (m' + 1)) [.int .i64 y1]) (setL (setL (wr.drewN (nq + 1)) b (off + (m' + 1)) [.int .i64 y1]) b (off + m') [.int .i64 x1]) b (off + m' * 1) (Nm.cells y1) (Nm.cells x1) := by
              have := Upd.of_setL (E := 3) (sz := 1) (w := setL (wr.drewN (nq + 1)) b (off + (m' + 1)) [.int .i64 y1]) (b := b) (o := off + m') (xs := Nm.cells y1) (ys' := Nm.cells x1) (ys := [.int .i64 x1]) 0 rfl rfl (by simp)
              simpa using this
            have o3 := o2.upd Nm.cells_len (by omega) (by rw [List.getElem?_set_ne (by omega)]; exact hy1.out) u2
            rw [HW.out] at o3
            have bb := setL_below (setL_below (below_drewN hb3 (nq + 1)) [.int .i64 y1] b (off + (m' + 1)) (by omega)) [.int .i64 x1] b (off + m') (by omega)
            have hs3 : hi ≤ (setL (setL (wr.drewN (nq + 1)) b (off + (m' + 1)) [.int .i64 y1]) b (off + m') [.int .i64 x1]).heap.size := by rw [setL_size, setL_size]; exact hh3
            go_wp2_with fail
            go_roundw
            case rel => exact ⟨m', by go_num, by omega, bb, hs3, o3, HJ2⟩
            case measure => simp [intOf] <;> omega
          · have hq2 : ltI x1 y1 = false := Bool.eq_false_iff.2 hq
            rw [hq2] at c1
            have hJ : ∀ (j : Nat) (y : Int), m' + 1 = j + 1 → S[j]? = some y → ltI x1 y = false := fun j y hj hy => by
              obtain rfl : j = m' := by omega
              rw [hyS] at hy
              obtain rfl := Option.some.inj hy
              exact Bool.eq_false_iff.2 hq
            have HQ := Lib.hid (show walkK S x1 (m' + 1) = insK ltI S x1 from walkK_ins (bk_eq x1 S (m' + 1) (by omega) HJ.out hJ))
            clear hJ
            clear hq hq2 hyS hx1 hy1 HJ
            go_wp2_with fail
            go_quiet ((go_at_call 101; refine Calls.quiet_of_same (c1 _)))
            go_wp2_with fail
            go_roundw
            case rel => exact ⟨k + 1, ik + 1, by go_num, Lib.hid (by rw [HI.out]; simp), by omega, below_drewN hb3 _, hh3, by rw [HX.out, ← HQ.out, HR.out]; exact ow3.drewN _⟩
            case measure => simp [intOf] <;> omega
    · have h1 : l.take (k + 1) = l := List.take_of_length_le (by have := HI.out; rw [← H.out]; omega)
      have h2 : l.drop (k + 1) = [] := List.drop_of_length_le (by have := HI.out; rw [← H.out]; omega)
      rw [h1, h2, List.append_nil] at ow
      go_wp2_with fail
      go_end0
      exact ⟨rfl, ow, hh2, hb⟩

end Go.Proofs.YtaggjadgbmmjoaaGreatDoor

/- The library's count of bits, at small numbers. Condition: at most 255. -/
namespace Go.Proofs.YtaggjadgbmmjoaaGreatDoor
open Go.RowKit Go.ChangeShapes Go.WideShapes Go.Deep

set_option maxHeartbeats 4000000 in
set_option maxRecDepth 100000 in
theorem len64_small (x : Int) (w : World) (h0 : 0 ≤ x) (h1 : x ≤ 255) : Calls Tryz.prog 105 #[.int .u64 x] w fun e w' => (∃ r, e = .returned (.int .i64 r)) ∧ w' = w := by
  have d1 : decide ((4294967296 : Int) ≤ x) = false := decide_eq_false (by omega)
  have d2 : decide ((65536 : Int) ≤ x) = false := decide_eq_false (by omega)
  have d3 : decide ((256 : Int) ≤ x) = false := decide_eq_false (by omega)
  go_enter Tryz.func105, Tryz.ntmps105
  go_wp2
  all_goals (go_ret; exact ⟨⟨_, rfl⟩, rfl⟩)
theorem len_small (x : Int) (w : World) (h0 : 0 ≤ x) (h1 : x ≤ 255) : Calls Tryz.prog 81 #[.int .u64 x] w fun e w' => (∃ r, e = .returned (.int .i64 r)) ∧ w' = w := by
  go_enter Tryz.func81, Tryz.ntmps81
  go_wp2_with (go_at_call 105; refine (len64_small x _ h0 h1).mono ?_; rintro e w' ⟨⟨r, rfl⟩, rfl⟩)
  go_ret
  exact ⟨⟨r, rfl⟩, rfl⟩

end Go.Proofs.YtaggjadgbmmjoaaGreatDoor

/- The library's sort of at most 12 numbers. Condition: at most 12 numbers. -/
namespace Go.Proofs.YtaggjadgbmmjoaaGreatDoor
open Go.RowKit Go.ChangeShapes Go.WideShapes Go.Deep


set_option maxHeartbeats 4000000 in
theorem pdqO_any (w0 : World) (v : Value) (l : List Int) (n : Nat) (hn : n = l.length) (hn12 : n ≤ 12) (r : Int) (w : World) {hi : Nat} (hb0 : Below w0.heap.size w0 w) (h : Ow Nm.cells 1 3 w w0.heap.size hi v l) (hh : hi ≤ w.heap.size) :
    Calls Tryz.prog 80 #[v, .int .i64 0, .int .i64 n, .int .i64 r] w fun e w' => e = .returned (.tuple #[]) ∧ Ow Nm.cells 1 3 w' w0.heap.size hi v (sortK ltI l) ∧ hi ≤ w'.heap.size ∧ Below w0.heap.size w0 w' := by
  have c1 := isortO_any w0 v l n hn w hb0 h hh
  have hd : decide ((n : Int) ≤ 12) = true := decide_eq_true (by omega)
  clear hn
  go_enter Tryz.func80, Tryz.ntmps80
  go_wp2_with fail
  go_loopw [1, 2, 3, 8, 9] (fun a b c d e wr => wr = w ∧ a = .int .i64 0 ∧ b = .int .i64 n) (fun _ _ _ _ _ _ => 0)
  case atStart => exact ⟨rfl, rfl, rfl⟩
  case round =>
    obtain ⟨rfl, rfl, rfl⟩ := hrel
    go_wp2_with fail
    refine c1.mono ?_
    rintro e w1 ⟨rfl, o1, hh1, b1⟩
    go_wp2_with fail
    (try simp only [Exit.inBlock, Exit.then]); refine bodyPost_ret (results_none rfl _ _ _) rfl ?_
    exact ⟨rfl, o1, hh1, b1⟩

theorem sortInts_any (w0 : World) (v : Value) (l : List Int) (hl : l.length ≤ 12) (w : World) {hi : Nat} (hb0 : Below w0.heap.size w0 w) (h : Ow Nm.cells 1 3 w w0.heap.size hi v l) (hh : hi ≤ w.heap.size) :
    Calls Tryz.prog 67 #[v] w fun e w' => e = .returned (.tuple #[]) ∧ Ow Nm.cells 1 3 w' w0.heap.size hi v (sortK ltI l) ∧ hi ≤ w'.heap.size ∧ Below w0.heap.size w0 w' := by
  obtain ⟨A, n, c, rfl, H, hc, hm⟩ := h.rd.form
  rw [← H.out] at hl
  have c1 := fun r => pdqO_any w0 _ l n H.out hl r w hb0 h hh
  have c2 := fun W => len_small n W (by omega) (by omega)
  clear h
  go_enter Tryz.func67, Tryz.ntmps67
  go_wp2_with fail
  refine (c2 _).mono ?_; rintro e w' ⟨⟨r, rfl⟩, rfl⟩
  go_wp2_with fail
  refine (c1 r).mono ?_; rintro e w1 ⟨rfl, o1, hh1, b1⟩
  go_wp2_with fail
  go_end0
  exact ⟨rfl, o1, hh1, b1⟩

end Go.Proofs.YtaggjadgbmmjoaaGreatDoor

/- The active interrupts, in the program and in the reference. No condition. -/
namespace Go.Proofs.YtaggjadgbmmjoaaGreatDoor
open Go.RowKit Go.ChangeShapes Go.WideShapes Go.Deep

theorem asc_at {l : List Int} (h : l.Pairwise (· < ·)) {i j : Nat} {a b : Int} (hi : l[i]? = some a) (hj : l[j]? = some b) (hij : i < j) : a < b := by
  obtain ⟨h1, rfl⟩ := List.getElem?_eq_some_iff.1 hi
  obtain ⟨h2, rfl⟩ := List.getElem?_eq_some_iff.1 hj
  exact List.pairwise_iff_getElem.1 h i j h1 h2 hij
theorem insK_put {l : List Int} {x : Int} (h : l.Pairwise (· < ·)) (hx : x ∉ l) : insK ltI l x = putL x l := by
  have hle := lead_le x l
  have hbk : bk ltI x l = lead x l := bk_eq x l (lead x l) hle (fun j y hj hy => by
    have hne : y ≠ x := fun e => hx (e ▸ List.mem_of_getElem? hy)
    have h0 : l[lead x l]? = some (l[lead x l]'(by have := (List.getElem?_eq_some_iff.1 hy).1; omega)) := List.getElem?_eq_getElem _
    have hne0 : l[lead x l]'(by have := (List.getElem?_eq_some_iff.1 hy).1; omega) ≠ x := fun e => hx (e ▸ List.getElem_mem _)
    have h1 := lead_at x l _ _ (Nat.le_refl _) h0
    rw [ltI, decide_eq_true_eq]
    rcases Nat.eq_or_lt_of_le hj with h2 | h2
    · subst h2
      have := Option.some.inj (h0.symm.trans hy)
      omega
    · have := asc_at h h0 hy h2
      omega) (fun j y hj hy => by
    have := (lead_at x l j y (by omega) hy).2 (by omega)
    rw [ltI, decide_eq_false_iff_not]; omega)
  rw [insK, hbk, putL]
theorem foldIns_asc : ∀ (xs acc : List Int), acc.Pairwise (· < ·) → xs.Nodup → (∀ x ∈ xs, x ∉ acc) → (xs.foldl (insK ltI) acc).Pairwise (· < ·)
  | [], acc, h, _, _ => h
  | x :: xs, acc, h, hn, hd => by
    rw [List.nodup_cons] at hn
    have hx := hd x (by simp)
    rw [List.foldl_cons, insK_put h hx]
    refine foldIns_asc xs _ (putL_asc x acc h hx) hn.2 (fun y hy hm => ?_)
    rcases (mem_putL x y acc).1 hm with rfl | hm
    · exact hn.1 hy
    · exact hd y (List.mem_cons_of_mem _ hy) hm
theorem sortK_asc {xs : List Int} (h : xs.Nodup) : (sortK ltI xs).Pairwise (· < ·) := foldIns_asc xs [] List.Pairwise.nil h (fun _ _ h => by simp at h)

def Sl.isAct (s : Sl) : Bool := s.state == 2 || s.state == 3
def Sl.acts (l : List Sl) : List Int := (l.filter Sl.isAct).map Sl.irq
def Sl.active (l : List Sl) : List Int := accL Sl.isAct Sl.irq l
theorem Sl.acts_pre {l : List Sl} {k : Nat} {s : Sl} (h : l[k]? = some s) : Sl.acts (l.take (k + 1)) = Sl.acts (l.take k) ++ if Sl.isAct s then [s.irq] else [] := by
  rw [List.take_add_one, h, Sl.acts, Sl.acts, List.filter_append, List.map_append]
  congr 1
  cases hq : Sl.isAct s <;> simp [hq]
theorem Sl.acts_nodup {l : List Sl} (hg : Sl.good l = true) : (Sl.acts l).Nodup := by
  unfold Sl.acts List.Nodup
  rw [List.pairwise_map, List.pairwise_filter]
  rw [List.pairwise_iff_getElem]
  intro i j hi hj hij ha hb
  refine Sl.good_ne hg hij (List.getElem?_eq_getElem hi) (List.getElem?_eq_getElem hj) ?_ ?_
  · intro h0; simp [Sl.isAct, h0] at ha
  · intro h0; simp [Sl.isAct, h0] at hb
theorem Sl.active_eq {l : List Sl} (hg : Sl.good l = true) : sortK ltI (Sl.acts l) = Sl.active l := by
  refine asc_ext _ _ (sortK_asc (Sl.acts_nodup hg)) (accL_asc _ _ _) (fun x => ?_)
  rw [sortK_mem, Sl.active, accL_mem]
  simp [Sl.acts, and_assoc]
def Sl.actR (l : List Sl) : List Int := if Sl.good l then Sl.active l else []
theorem Sl.actR_len (l : List Sl) : (Sl.actR l).length ≤ 1048576 := by
  unfold Sl.actR; split
  · rename_i h
    have := accL_len Sl.isAct Sl.irq l
    have h2 := Sl.good_len h
    unfold Sl.active; omega
  · simp

set_option maxHeartbeats 1000000 in
theorem activeIrqs_any (v : Value) (l : List Sl) (w : World) {lo hi : Nat} (h : Rd Sl.cells 3 w lo hi v l) (hh : hi ≤ w.heap.size) (hg : Sl.good l = true) :
    Calls Tryz.prog 42 #[v] w fun e w' => ∃ v', e = .returned v' ∧ Ow Nm.cells 1 3 w' w.heap.size w'.heap.size v' (Sl.active l) ∧ Below w.heap.size w w' := by
  have hrd := h
  obtain ⟨A, n, c, rfl, H, hc, hm⟩ := h.form
  have hn4 : n ≤ 4 := by rw [H.out, Sl.good_len hg]; decide
  have HE := Lib.hid (Sl.active_eq hg)
  clear hg h
  go_enter Tryz.func42, Tryz.ntmps42
  go_wp2_with fail
  have hb0 := (Below.refl w.heap.size w).alloc (Nat.le_refl _) (.cells #[] 3)
  have hf0 := own_empty w (base := w.heap.size) 3 1 (Nat.le_refl _)
  generalize w.alloc _ = w1 at hf0 hb0 ⊢
  go_loopw [3, 9] (fun q i wr => ∃ (k m : Nat), k ≤ n ∧ i = .int .i64 k ∧ Hid (m = (Sl.acts (l.take k)).length) ∧ m ≤ k ∧ Below w.heap.size w wr ∧ wr.ownsRow w.heap.size 3 1 q m ((Sl.acts (l.take k)).flatMap Nm.cells)) (fun _ i _ => n - (intOf i).toNat)
  case atStart => exact ⟨0, 0, Nat.zero_le _, rfl, Lib.hid rfl, Nat.le_refl _, hb0, hf0⟩
  case round =>
    clear hf0 hb0
    obtain ⟨k, m, hk, rfl, HM, hmk, hb, hf⟩ := hrel
    have hbs := hb.size
    by_cases hlt : k < n
    · obtain ⟨b, off, s, rfl, hs, _, hbl, f0, f1, f2⟩ := Sl.get hrd hlt hb hh
      have hP := Sl.acts_pre hs.out
      have c1 := fun W => isActive_at s.state s.irq s.prio W
      have hrfl : Sl.isAct s = (s.state == 2 || s.state == 3) := rfl
      rw [← hrfl] at c1
      clear hrfl
      cases hq : Sl.isAct s
      · have HF := Lib.hid (show Sl.acts (l.take (k + 1)) = Sl.acts (l.take k) from by rw [hP, hq]; simp)
        rw [hq] at c1
        clear hP hq
        go_wp2_with fail
        refine (c1 _).mono ?_; rintro e w2 ⟨rfl, b2⟩
        have hf2 := (hf.alloc (.cells #[.int .i64 s.state, .int .i64 s.irq, .int .i64 s.prio] 34)).kept (World.grownBy.mk b2.os b2.tape b2.output b2.size (fun k hk _ => b2.block k hk) : (wr.alloc (.cells #[.int .i64 s.state, .int .i64 s.irq, .int .i64 s.prio] 34)).grownBy w2 none) (by cases hv : u3.ownBlock <;> simp)
        have hb2 := (hb.alloc hb.size (.cells #[.int .i64 s.state, .int .i64 s.irq, .int .i64 s.prio] 34)).trans (b2.mono (by simp; omega))
        go_wp2_with fail
        go_roundw
        case rel => exact ⟨k + 1, m, by omega, by go_num, Lib.hid (by rw [HF.out, HM.out]), by omega, hb2, by rw [HF.out]; exact hf2⟩
        case measure => simp [intOf]; omega
      · have HF := Lib.hid (show Sl.acts (l.take (k + 1)) = Sl.acts (l.take k) ++ [s.irq] from by rw [hP, hq]; simp)
        rw [hq] at c1
        clear hP hq
        go_wp2_with fail
        refine (c1 _).mono ?_; rintro e w2 ⟨rfl, b2⟩
        have g1 : w2.cell? ⟨wr.heap.size, 1, none⟩ = some (.int .i64 s.irq) := (b2.cell (p := ⟨wr.heap.size, 1, none⟩) (by simp)).trans (by simp)
        have hf2 := (hf.alloc (.cells #[.int .i64 s.state, .int .i64 s.irq, .int .i64 s.prio] 34)).kept (World.grownBy.mk b2.os b2.tape b2.output b2.size (fun k hk _ => b2.block k hk) : (wr.alloc (.cells #[.int .i64 s.state, .int .i64 s.irq, .int .i64 s.prio] 34)).grownBy w2 none) (by cases hv : u3.ownBlock <;> simp)
        have hb2 := (hb.alloc hb.size (.cells #[.int .i64 s.state, .int .i64 s.irq, .int .i64 s.prio] 34)).trans (b2.mono (by simp; omega))
        have hz2 := hb2.size
        clear b2 c1
        go_wp2_with (at_builtin; (refine Nm.app_one rfl _ _ rfl w.heap.size u3 m _ rfl (hf2.alloc _) (g := w2.heap.size) (c := 1) s.irq rfl ?hc0 (by omega) (by simp <;> omega) ?_); (rotate_left); (intro v3 w3 hf3 hg3))
        go_roundw
        case rel =>
          refine ⟨k + 1, m + 1, by omega, by go_num, Lib.hid (by rw [HF.out, List.length_append, HM.out]; rfl), by omega, (hb2.alloc hb2.size _).grown hg3 (by simp <;> omega) (fun j hj => (hf2.lt j hj).1), ?_⟩
          rw [HF.out, List.flatMap_append]
          exact hf3
        case measure => simp [intOf]; omega
        case hc0 =>
          intro j u hu
          simpa [Nm.cells] using hu
    · have hkl : l.take k = l := List.take_of_length_le (by rw [← H.out]; omega)
      rw [hkl] at hf HM
      have ow := Ow.of_own Nm.cells_len hf rfl HM.out
      have c2 := sortInts_any w u3 _ (by rw [← HM.out]; omega) wr hb ow (Nat.le_refl _)
      rw [HE.out] at c2
      go_wp2_with fail
      refine c2.mono ?_; rintro e w2 ⟨rfl, o2, hh2, b2⟩
      go_wp2_with fail
      go_ret
      exact ⟨_, rfl, o2.mono (Nat.le_refl _) hh2, b2⟩
theorem implActiveIrqs_any (v : Value) (l : List Sl) (w : World) {lo hi : Nat} (h : Rd Sl.cells 3 w lo hi v l) (hh : hi ≤ w.heap.size) :
    Calls Tryz.prog 15 #[v] w fun r w' => ∃ v', r = .returned (.tuple #[v', .bool (Sl.good l)]) ∧ Ow Nm.cells 1 3 w' w.heap.size w'.heap.size v' (Sl.actR l) ∧ (Sl.actR l).length ≤ 1048576 ∧ Below w.heap.size w w' := by
  have hlen := Sl.actR_len l
  have c1 := implAreSlots_any v l w h hh
  have c3 := fun (hg : Sl.good l = true) (W : World) (kb : Below w.heap.size w W) => activeIrqs_any v l W (h.below kb hh) (Nat.le_trans hh kb.size) hg
  obtain ⟨A, n, c, rfl, H, hc, hm⟩ := h.form
  cases hg : Sl.good l
  · have HF := Lib.hid (show Sl.actR l = [] from by simp [Sl.actR, hg])
    rw [hg] at c1
    clear hg c3
    go_enter Tryz.func15, Tryz.ntmps15
    go_wp2_with fail
    refine c1.mono ?_; rintro q_ w1 ⟨rfl, b1⟩
    go_wp2_with fail
    go_ret2
    exact ⟨_, rfl, by rw [HF.out]; exact Ow.nil_, hlen, b1⟩
  · have HF := Lib.hid (show Sl.actR l = Sl.active l from by simp [Sl.actR, hg])
    have c3 := c3 hg
    rw [hg] at c1
    clear hg
    go_enter Tryz.func15, Tryz.ntmps15
    go_wp2_with fail
    refine c1.mono ?_; rintro q_ w1 ⟨rfl, b1⟩
    go_wp2_with fail
    refine (c3 _ b1).mono ?_; rintro q_ w3 ⟨v', rfl, o1, b3⟩
    go_wp2_with fail
    go_ret2
    exact ⟨v', rfl, by rw [HF.out]; exact o1.mono b1.size (Nat.le_refl _), hlen, b1.trans (b3.mono b1.size)⟩

end Go.Proofs.YtaggjadgbmmjoaaGreatDoor

/- The pending slot with the most or the least urgent interrupt, in the program. Condition: the slots are valid. -/
namespace Go.Proofs.YtaggjadgbmmjoaaGreatDoor
open Go.RowKit Go.ChangeShapes Go.WideShapes Go.Deep

set_option maxHeartbeats 8000000 in
theorem pendingSlot_any (v : Value) (l : List Sl) (most : Bool) (w : World) {lo hi : Nat} (h : Rd Sl.cells 3 w lo hi v l) (hh : hi ≤ w.heap.size) (hg : Sl.good l = true) : Calls Tryz.prog 64 #[v, .bool most] w fun e w' => e = .returned (.int .i64 (Sl.best most l l.length)) ∧ Below w.heap.size w w' := by
  have hrd := h
  have HG := Lib.hid hg
  obtain ⟨A, n, c, rfl, H, hc, hm⟩ := h.form
  clear h hg
  go_enter Tryz.func64, Tryz.ntmps64
  go_wp2_with fail
  go_loopw [5, 10] (fun q i wr => ∃ k : Nat, k ≤ n ∧ i = .int .i64 k ∧ q = .int .i64 (Sl.best most l k) ∧ Below w.heap.size w wr) (fun _ i _ => n - (intOf i).toNat)
  case atStart => exact ⟨0, Nat.zero_le _, rfl, rfl, Below.refl _ _⟩
  case round =>
    obtain ⟨k, hk, rfl, rfl, hb⟩ := hrel
    by_cases hlt : k < n
    · obtain ⟨b, off, s, rfl, hs, _, hbl, f0, f1, f2⟩ := Sl.get hrd hlt hb hh
      have hbs := hb.size
      have hbw : b < wr.heap.size := by omega
      have hb2 := hb.alloc hb.size (.cells #[.int .i64 s.state, .int .i64 s.irq, .int .i64 s.prio] 34)
      have hN := Sl.best_succ (most := most) hs.out
      by_cases h1 : s.state = 1
      · rcases Sl.best_bd most l k (by have := H.out; omega) with hbd | ⟨j, u, hbd, hj, hu, hu1⟩
        · have HN := Lib.hid (show Sl.best most l (k + 1) = k from by rw [hN, hbd]; simp [Sl.bestIf, h1])
          rw [h1] at f0 hb2
          rw [hbd]
          clear hN hbd h1
          go_wp2_with fail
          go_quiet (fail)
          go_wp2_with fail
          go_roundw
          case rel => exact ⟨k + 1, by omega, by go_num, by rw [HN.out], below_drewN hb2 _⟩
          case measure => simp [intOf]; omega
        · obtain ⟨_, _, u', e, hu', _, _, g0, g1, g2⟩ := Sl.get hrd (k := j) (by omega) hb hh
          injection e with e
          injection e with e1 e2
          subst e1; subst e2
          obtain rfl : u = u' := Option.some.inj (hu.symm.trans hu'.out)
          have hj0 : decide ((j : Int) < 0) = false := by simp
          have hjn : (j : Int) < (n : Int) := by omega
          have hne := Sl.good_ne HG.out hj hu hs.out (by omega) (by omega)
          have hln : s.wt.lt u.wt = !u.wt.lt s.wt := by
            unfold Wt.lt Sl.wt
            rw [Bool.eq_iff_iff]
            simp only [Bool.or_eq_true, Bool.and_eq_true, Bool.not_eq_true', Bool.or_eq_false_iff, Bool.and_eq_false_iff, decide_eq_true_eq, decide_eq_false_iff_not]
            omega
          have HN := Lib.hid (show Sl.best most l (k + 1) = if (s.wt.lt u.wt == most) then (k : Int) else j from by
            have hj1 : ¬ (j : Int) < 0 := by omega
            rw [hN, hbd]
            cases most <;> simp [Sl.bestIf, h1, hu, hj1, Sl.bt, hln])
          rw [hbd]
          rw [h1] at f0 hb2
          have hur := urg_neg s.wt u.wt
          clear hN hbd h1 hu hu' hu1 hne hln
          unfold Sl.wt at hur HN
          cases hq : Wt.lt ⟨s.irq, s.prio⟩ ⟨u.irq, u.prio⟩
          · have hd : decide (urg ⟨s.irq, s.prio⟩ ⟨u.irq, u.prio⟩ < 0) = false := decide_eq_false (fun h => by rw [hq] at hur; simpa using hur.1 h)
            rw [hq] at HN
            clear hq hur
            cases most
            all_goals
              go_wp2_with fail
              have k0 : (wr.alloc (.cells #[.int .i64 1, .int .i64 s.irq, .int .i64 s.prio] 34)).cell? ⟨wr.heap.size, 0, none⟩ = some (.int .i64 1) := by simp
              have k1 : (wr.alloc (.cells #[.int .i64 1, .int .i64 s.irq, .int .i64 s.prio] 34)).cell? ⟨wr.heap.size, 1, none⟩ = some (.int .i64 s.irq) := by simp
              have k2 : (wr.alloc (.cells #[.int .i64 1, .int .i64 s.irq, .int .i64 s.prio] 34)).cell? ⟨wr.heap.size, 2, none⟩ = some (.int .i64 s.prio) := by simp
              have k3 : (wr.alloc (.cells #[.int .i64 1, .int .i64 s.irq, .int .i64 s.prio] 34)).cell? ⟨b, off + j * 3, none⟩ = some (.int .i64 u.state) := by rw [World.cell?_alloc_lt _ _ _ hbw]; exact g0
              have k4 : (wr.alloc (.cells #[.int .i64 1, .int .i64 s.irq, .int .i64 s.prio] 34)).cell? ⟨b, off + j * 3 + 1, none⟩ = some (.int .i64 u.irq) := by rw [World.cell?_alloc_lt _ _ _ hbw]; exact g1
              have k5 : (wr.alloc (.cells #[.int .i64 1, .int .i64 s.irq, .int .i64 s.prio] 34)).cell? ⟨b, off + j * 3 + 2, none⟩ = some (.int .i64 u.prio) := by rw [World.cell?_alloc_lt _ _ _ hbw]; exact g2
              clear f0 f1 f2 g0 g1 g2
              generalize wr.alloc _ = w2 at hb2 k0 k1 k2 k3 k4 k5 ⊢
              have e0 := cell_ext k0; have e1 := cell_ext k1; have e2 := cell_ext k2; have e3 := cell_ext k3; have e4 := cell_ext k4; have e5 := cell_ext k5
              refine wp_region_ext_all (by kernel_rfl) (by kernel_rfl) ?_
              repeat (go_big_quiet_step (first | (go_at_call 78; exact calls_ext (waiterOf_at _ _ _ _)) | (go_at_call 77; exact calls_ext (compareUrgency_at _ _ _ _ _))))
              refine wpQuiet_nil ?_
              intro w3 b3
              clear e0 e1 e2 e3 e4 e5
              go_wp2_with fail
              go_roundw
              case rel => exact ⟨k + 1, by omega, by go_num, by rw [HN.out]; rfl, hb2.trans (b3.mono hb2.size)⟩
              case measure => simp [intOf]; omega
          · have hd : decide (urg ⟨s.irq, s.prio⟩ ⟨u.irq, u.prio⟩ < 0) = true := decide_eq_true (hur.2 hq)
            rw [hq] at HN
            clear hq hur
            cases most
            all_goals
              go_wp2_with fail
              have k0 : (wr.alloc (.cells #[.int .i64 1, .int .i64 s.irq, .int .i64 s.prio] 34)).cell? ⟨wr.heap.size, 0, none⟩ = some (.int .i64 1) := by simp
              have k1 : (wr.alloc (.cells #[.int .i64 1, .int .i64 s.irq, .int .i64 s.prio] 34)).cell? ⟨wr.heap.size, 1, none⟩ = some (.int .i64 s.irq) := by simp
              have k2 : (wr.alloc (.cells #[.int .i64 1, .int .i64 s.irq, .int .i64 s.prio] 34)).cell? ⟨wr.heap.size, 2, none⟩ = some (.int .i64 s.prio) := by simp
              have k3 : (wr.alloc (.cells #[.int .i64 1, .int .i64 s.irq, .int .i64 s.prio] 34)).cell? ⟨b, off + j * 3, none⟩ = some (.int .i64 u.state) := by rw [World.cell?_alloc_lt _ _ _ hbw]; exact g0
              have k4 : (wr.alloc (.cells #[.int .i64 1, .int .i64 s.irq, .int .i64 s.prio] 34)).cell? ⟨b, off + j * 3 + 1, none⟩ = some (.int .i64 u.irq) := by rw [World.cell?_alloc_lt _ _ _ hbw]; exact g1
              have k5 : (wr.alloc (.cells #[.int .i64 1, .int .i64 s.irq, .int .i64 s.prio] 34)).cell? ⟨b, off + j * 3 + 2, none⟩ = some (.int .i64 u.prio) := by rw [World.cell?_alloc_lt _ _ _ hbw]; exact g2
              clear f0 f1 f2 g0 g1 g2
              generalize wr.alloc _ = w2 at hb2 k0 k1 k2 k3 k4 k5 ⊢
              have e0 := cell_ext k0; have e1 := cell_ext k1; have e2 := cell_ext k2; have e3 := cell_ext k3; have e4 := cell_ext k4; have e5 := cell_ext k5
              refine wp_region_ext_all (by kernel_rfl) (by kernel_rfl) ?_
              repeat (go_big_quiet_step (first | (go_at_call 78; exact calls_ext (waiterOf_at _ _ _ _)) | (go_at_call 77; exact calls_ext (compareUrgency_at _ _ _ _ _))))
              refine wpQuiet_nil ?_
              intro w3 b3
              clear e0 e1 e2 e3 e4 e5
              go_wp2_with fail
              go_roundw
              case rel => exact ⟨k + 1, by omega, by go_num, by rw [HN.out]; rfl, hb2.trans (b3.mono hb2.size)⟩
              case measure => simp [intOf]; omega
      · have HN := Lib.hid (show Sl.best most l (k + 1) = Sl.best most l k from by rw [hN]; simp [Sl.bestIf, h1])
        have hd : (s.state == 1) = false := by simp [h1]
        clear hN h1
        generalize Sl.best most l k = q at *
        go_wp2_with fail
        go_quiet (fail)
        go_wp2_with fail
        go_roundw
        case rel => exact ⟨k + 1, by omega, by go_num, by rw [HN.out], below_drewN hb2 _⟩
        case measure => simp [intOf]; omega
    · have hkn : k = n := by omega
      have HE := Lib.hid (show Sl.best most l k = Sl.best most l l.length from by rw [hkn, H.out])
      go_wp2_with fail
      go_ret
      exact ⟨ret_int HE.out, hb⟩

end Go.Proofs.YtaggjadgbmmjoaaGreatDoor

/- Taking the most urgent pending interrupt, in the program and in the reference. Condition (the inner functions): valid slots. -/
namespace Go.Proofs.YtaggjadgbmmjoaaGreatDoor
open Go.RowKit Go.ChangeShapes Go.WideShapes Go.Deep

def Sl.bx (l : List Sl) : Int := Sl.best true l l.length
def Sl.act (s : Sl) : Sl := ⟨2, s.irq, s.prio⟩
def Sl.tkOk (l : List Sl) (m : Int) : Bool := decide (0 ≤ Sl.bx l) && decide ((Sl.at_ l (Sl.bx l)).prio < m)
def Sl.tkS (l : List Sl) : List Sl := l.set (Sl.bx l).toNat (Sl.act (Sl.at_ l (Sl.bx l)))
def Sl.tkI (l : List Sl) : Int := (Sl.at_ l (Sl.bx l)).irq
def Sl.tkR (l : List Sl) (m : Int) : List Sl := if Sl.tkOk l m then Sl.tkS l else []
def Sl.tkV (l : List Sl) (m : Int) : Int := if Sl.tkOk l m then Sl.tkI l else 0
/-- as the reference's inner function returns them -/
def Sl.tkL (l : List Sl) (m : Int) : List Sl := if Sl.tkOk l m then Sl.tkS l else l
def Sl.tkW (l : List Sl) (m : Int) : Int := if Sl.tkOk l m then Sl.tkI l else -1
theorem Sl.bx_cases (l : List Sl) : Sl.bx l = -1 ∨ ∃ (k : Nat) (s : Sl), Sl.bx l = k ∧ k < l.length ∧ l[k]? = some s ∧ s.state = 1 :=
  (Sl.best_bd true l l.length (Nat.le_refl _)).imp id fun ⟨k, s, h1, h2, h3, h4⟩ => ⟨k, s, h1, h2, h3, h4⟩
theorem Sl.tk_no {l : List Sl} {m : Int} (h : Sl.tkOk l m = false) : Sl.tkOk l m = false ∧ Sl.tkR l m = [] ∧ Sl.tkV l m = 0 ∧ Sl.tkL l m = l ∧ Sl.tkW l m = -1 := by
  simp [Sl.tkR, Sl.tkV, Sl.tkL, Sl.tkW, h]
theorem Sl.tk_yes {l : List Sl} {m : Int} {k : Nat} {s : Sl} (h : Sl.bx l = k) (hs : l[k]? = some s) (hp : s.prio < m) : Sl.tkOk l m = true ∧ Sl.tkR l m = l.set k (Sl.act s) ∧ Sl.tkV l m = s.irq ∧ Sl.tkL l m = l.set k (Sl.act s) ∧ Sl.tkW l m = s.irq := by
  have h1 : Sl.tkOk l m = true := by simp [Sl.tkOk, h, Sl.at_get hs, hp]
  simp [Sl.tkR, Sl.tkV, Sl.tkL, Sl.tkW, h1, Sl.tkS, Sl.tkI, h, Sl.at_get hs]
theorem Sl.tk_irq {l : List Sl} (hg : Sl.good l = true) {m : Int} (h : Sl.tkOk l m = true) : 0 ≤ Sl.tkI l := by
  rcases Sl.bx_cases l with hb | ⟨k, s, hb, _, hs, h1⟩
  · simp [Sl.tkOk, hb] at h
  · have := Sl.good_one hg hs
    have h0 : ¬ s.state = 0 := by omega
    simp only [Sl.okAt, if_neg h0, Bool.and_eq_true] at this
    have := inB_true this.2.1
    rw [Sl.tkI, hb, Sl.at_get hs]
    exact this.1
def Sl.ttOk (l : List Sl) (m : Int) : Bool := (Sl.good l && inB m 0 16) && Sl.tkOk l m
def Sl.ttR (l : List Sl) (m : Int) : List Sl := if Sl.ttOk l m then Sl.tkS l else []
def Sl.ttV (l : List Sl) (m : Int) : Int := if Sl.ttOk l m then Sl.tkI l else 0
theorem Sl.tkS_len (l : List Sl) : (Sl.tkS l).length = l.length := by simp [Sl.tkS]
theorem Sl.ttR_len (l : List Sl) (m : Int) : (Sl.ttR l m).length ≤ 1048576 := by
  unfold Sl.ttR; split
  · rename_i h
    simp only [Sl.ttOk, Bool.and_eq_true] at h
    rw [Sl.tkS_len, Sl.good_len h.1.1]; decide
  · simp
theorem Sl.tt_no {l : List Sl} {m : Int} (h : Sl.ttOk l m = false) : Sl.ttOk l m = false ∧ Sl.ttR l m = [] ∧ Sl.ttV l m = 0 := by simp [Sl.ttR, Sl.ttV, h]

set_option maxHeartbeats 1000000 in
theorem specTake_in (v : Value) (l : List Sl) (m : Int) (w : World) {lo hi : Nat} (h : Rd Sl.cells 3 w lo hi v l) (hh : hi ≤ w.heap.size) (hg : Sl.good l = true) :
    Calls Tryz.prog 41 #[v, .int .i64 m] w fun r w' => ∃ v', r = .returned (.tuple #[v', .int .i64 (Sl.tkW l m)]) ∧ Rd Sl.cells 3 w' 0 w'.heap.size v' (Sl.tkL l m) ∧ Below w.heap.size w w' := by
  have hl : l.length ≤ 1048576 := by rw [Sl.good_len hg]; decide
  have c1 := l8Best_any v l true w h hh
  change Calls _ _ _ _ (fun e w' => e = .returned (.int .i64 (Sl.bx l)) ∧ Below w.heap.size w w') at c1
  have c3 := fun (W : World) (kb : Below w.heap.size w W) (k : Nat) (s : Sl) (hk : k < l.length) => specWith_any v l k s W (h.below kb hh) (Nat.le_trans hh kb.size) hk hl
  have hrd := h
  obtain ⟨A, n, c, rfl, H, hc, hm⟩ := h.form
  clear hg
  rcases Sl.bx_cases l with hf | ⟨k, s, hf, hk, hs, _⟩
  · rw [hf] at c1
    have HF := Lib.hid (Sl.tk_no (l := l) (m := m) (by simp [Sl.tkOk, hf]))
    clear hf c3
    go_enter Tryz.func41, Tryz.ntmps41
    go_wp2_with fail
    refine c1.mono ?_; rintro q_ w1 ⟨rfl, b1⟩
    go_wp2_with fail
    go_ret2
    exact ⟨_, by rw [HF.out.2.2.2.2]; rfl, by rw [HF.out.2.2.2.1]; exact (hrd.below b1 hh).mono (Nat.zero_le _) (Nat.le_trans hh b1.size), b1⟩
  · rw [hf] at c1
    have hkn : k < n := by rw [H.out]; exact hk
    have HT := Lib.hid hs
    have hj0 : decide ((k : Int) < 0) = false := by simp
    by_cases hp : s.prio < m
    · have HF := Lib.hid (Sl.tk_yes hf hs hp)
      have hd : decide (m ≤ s.prio) = false := decide_eq_false (by omega)
      have c3 := fun W kb => c3 W kb k (Sl.act s) hk
      unfold Sl.act Sl.val at c3
      simp only at c3
      unfold Sl.act at HF
      clear hf hs hp
      go_enter Tryz.func41, Tryz.ntmps41
      go_wp2_with fail
      refine c1.mono ?_; rintro q_ w1 ⟨rfl, b1⟩
      obtain ⟨b, off, t, rfl, ht, _, hbl, f0, f1, f2⟩ := Sl.get hrd hkn b1 hh
      obtain rfl := Option.some.inj (HT.out.symm.trans ht.out)
      have hbw1 : b < w1.heap.size := by have := b1.size; omega
      go_wp2_with fail
      have k0 : (w1.alloc (.cells #[.int .i64 2, .int .i64 s.irq, .int .i64 s.prio] 34)).cell? ⟨w1.heap.size, 0, none⟩ = some (.int .i64 2) := by simp
      have k1 : (w1.alloc (.cells #[.int .i64 2, .int .i64 s.irq, .int .i64 s.prio] 34)).cell? ⟨w1.heap.size, 1, none⟩ = some (.int .i64 s.irq) := by simp
      have k2 : (w1.alloc (.cells #[.int .i64 2, .int .i64 s.irq, .int .i64 s.prio] 34)).cell? ⟨w1.heap.size, 2, none⟩ = some (.int .i64 s.prio) := by simp
      have bx := b1.alloc b1.size (.cells #[.int .i64 2, .int .i64 s.irq, .int .i64 s.prio] 34)
      have z2 : w1.heap.size < (w1.alloc (.cells #[.int .i64 2, .int .i64 s.irq, .int .i64 s.prio] 34)).heap.size := by simp
      have zz := bx.size
      clear f0 f1 f2
      generalize w1.alloc _ = w2 at bx k0 k1 k2 z2 zz ⊢
      have c5 := c3 w2.drew (bx.drew)
      go_region_with (go_at_call 60; refine c5.mono ?_; rintro q_ w3 ⟨v', rfl, o1, b3⟩; (try simp only [World.size_drew] at b3 o1); (have k3 := (b3.cell (p := ⟨w1.heap.size, 1, none⟩) z2).trans k1))
      all_goals
        have bx := bx.drew
        go_wp2_with fail
        go_ret2
        exact ⟨v', by rw [HF.out.2.2.2.2]; rfl, by rw [HF.out.2.2.2.1]; exact o1.rd.mono (Nat.zero_le _) (Nat.le_refl _), bx.trans (b3.mono zz)⟩
    · have HF := Lib.hid (Sl.tk_no (l := l) (m := m) (by simp [Sl.tkOk, hf, Sl.at_get hs, hp]))
      have hd : decide (m ≤ s.prio) = true := decide_eq_true (by omega)
      clear hf hs hp c3
      go_enter Tryz.func41, Tryz.ntmps41
      go_wp2_with fail
      refine c1.mono ?_; rintro q_ w1 ⟨rfl, b1⟩
      have hrd2 := hrd
      obtain ⟨b, off, t, rfl, ht, _, hbl, f0, f1, f2⟩ := Sl.get hrd hkn b1 hh
      obtain rfl := Option.some.inj (HT.out.symm.trans ht.out)
      have hbw1 : b < w1.heap.size := by have := b1.size; omega
      go_wp2_with fail
      go_ret2
      exact ⟨_, by rw [HF.out.2.2.2.2]; rfl, by rw [HF.out.2.2.2.1]; exact (hrd.below b1 hh).mono (Nat.zero_le _) (Nat.le_trans hh b1.size), b1⟩
set_option maxHeartbeats 1000000 in
theorem implTake_in (v : Value) (l : List Sl) (m : Int) (w : World) {lo hi : Nat} (h : Rd Sl.cells 3 w lo hi v l) (hh : hi ≤ w.heap.size) (hg : Sl.good l = true) :
    Calls Tryz.prog 39 #[v, .int .i64 m] w fun r w' => ∃ v', r = .returned (.tuple #[v', .int .i64 (Sl.tkV l m), .bool (Sl.tkOk l m)]) ∧ Ow Sl.cells 3 34 w' w.heap.size w'.heap.size v' (Sl.tkR l m) ∧ Below w.heap.size w w' := by
  have hl : l.length ≤ 1048576 := by rw [Sl.good_len hg]; decide
  have c1 := pendingSlot_any v l true w h hh hg
  change Calls _ _ _ _ (fun e w' => e = .returned (.int .i64 (Sl.bx l)) ∧ Below w.heap.size w w') at c1
  have c3 := fun (W : World) (kb : Below w.heap.size w W) (k : Nat) (s : Sl) (hk : k < l.length) => implWith_any v l k s W (h.below kb hh) (Nat.le_trans hh kb.size) hk hl
  have hrd := h
  obtain ⟨A, n, c, rfl, H, hc, hm⟩ := h.form
  clear hg
  rcases Sl.bx_cases l with hf | ⟨k, s, hf, hk, hs, _⟩
  · rw [hf] at c1
    have HF := Lib.hid (Sl.tk_no (l := l) (m := m) (by simp [Sl.tkOk, hf]))
    clear hf c3
    go_enter Tryz.func39, Tryz.ntmps39
    go_wp2_with fail
    refine c1.mono ?_; rintro q_ w1 ⟨rfl, b1⟩
    go_wp2_with fail
    go_ret3
    exact ⟨_, by rw [HF.out.1, HF.out.2.2.1]; rfl, by rw [HF.out.2.1]; exact Ow.nil_, b1⟩
  · rw [hf] at c1
    have hkn : k < n := by rw [H.out]; exact hk
    have HT := Lib.hid hs
    have hj0 : decide ((k : Int) < 0) = false := by simp
    by_cases hp : s.prio < m
    · have HF := Lib.hid (Sl.tk_yes hf hs hp)
      have hd : decide (m ≤ s.prio) = false := decide_eq_false (by omega)
      have c3 := fun W kb => c3 W kb k (Sl.act s) hk
      unfold Sl.act Sl.val at c3
      simp only at c3
      unfold Sl.act at HF
      clear hf hs hp
      go_enter Tryz.func39, Tryz.ntmps39
      go_wp2_with fail
      refine c1.mono ?_; rintro q_ w1 ⟨rfl, b1⟩
      obtain ⟨b, off, t, rfl, ht, _, hbl, f0, f1, f2⟩ := Sl.get hrd hkn b1 hh
      obtain rfl := Option.some.inj (HT.out.symm.trans ht.out)
      have hbw1 : b < w1.heap.size := by have := b1.size; omega
      go_wp2_with fail
      have k0 : (w1.alloc (.cells #[.int .i64 2, .int .i64 s.irq, .int .i64 s.prio] 34)).cell? ⟨w1.heap.size, 0, none⟩ = some (.int .i64 2) := by simp
      have k1 : (w1.alloc (.cells #[.int .i64 2, .int .i64 s.irq, .int .i64 s.prio] 34)).cell? ⟨w1.heap.size, 1, none⟩ = some (.int .i64 s.irq) := by simp
      have k2 : (w1.alloc (.cells #[.int .i64 2, .int .i64 s.irq, .int .i64 s.prio] 34)).cell? ⟨w1.heap.size, 2, none⟩ = some (.int .i64 s.prio) := by simp
      have bx := b1.alloc b1.size (.cells #[.int .i64 2, .int .i64 s.irq, .int .i64 s.prio] 34)
      have z2 : w1.heap.size < (w1.alloc (.cells #[.int .i64 2, .int .i64 s.irq, .int .i64 s.prio] 34)).heap.size := by simp
      have zz := bx.size
      clear f0 f1 f2
      generalize w1.alloc _ = w2 at bx k0 k1 k2 z2 zz ⊢
      have c5 := c3 w2.drew (bx.drew)
      go_region_with (go_at_call 57; refine c5.mono ?_; rintro q_ w3 ⟨v', rfl, o1, b3⟩; (try simp only [World.size_drew] at b3 o1); (have k3 := (b3.cell (p := ⟨w1.heap.size, 1, none⟩) z2).trans k1))
      all_goals
        have bx := bx.drew
        go_wp2_with fail
        go_ret3
        exact ⟨v', by rw [HF.out.1, HF.out.2.2.1]; rfl, by rw [HF.out.2.1]; exact o1.mono zz (Nat.le_refl _), bx.trans (b3.mono zz)⟩
    · have HF := Lib.hid (Sl.tk_no (l := l) (m := m) (by simp [Sl.tkOk, hf, Sl.at_get hs, hp]))
      have hd : decide (m ≤ s.prio) = true := decide_eq_true (by omega)
      clear hf hs hp c3
      go_enter Tryz.func39, Tryz.ntmps39
      go_wp2_with fail
      refine c1.mono ?_; rintro q_ w1 ⟨rfl, b1⟩
      have hrd2 := hrd
      obtain ⟨b, off, t, rfl, ht, _, hbl, f0, f1, f2⟩ := Sl.get hrd hkn b1 hh
      obtain rfl := Option.some.inj (HT.out.symm.trans ht.out)
      have hbw1 : b < w1.heap.size := by have := b1.size; omega
      go_wp2_with fail
      go_ret3
      exact ⟨_, by rw [HF.out.1, HF.out.2.2.1]; rfl, by rw [HF.out.2.1]; exact Ow.nil_, b1⟩
set_option maxHeartbeats 1000000 in
theorem specTakeSlot_any (v : Value) (l : List Sl) (m : Int) (w : World) {lo hi : Nat} (h : Rd Sl.cells 3 w lo hi v l) (hh : hi ≤ w.heap.size) :
    Calls Tryz.prog 14 #[v, .int .i64 m] w fun r w' => ∃ v', r = .returned (.tuple #[v', .int .i64 (Sl.ttV l m), .bool (Sl.ttOk l m)]) ∧ Rd Sl.cells 3 w' 0 w'.heap.size v' (Sl.ttR l m) ∧ Below w.heap.size w w' := by
  have c1 := l8Good_any v l w h hh
  have d0 := fun W => l1In_any m 0 16 W
  have c3 := fun (hg : Sl.good l = true) (W : World) (kb : Below w.heap.size w W) => specTake_in v l m W (h.below kb hh) (Nat.le_trans hh kb.size) hg
  obtain ⟨A, n, c, rfl, H, hc, hm⟩ := h.form
  cases hg : Sl.good l
  · have HF := Lib.hid (Sl.tt_no (l := l) (m := m) (by simp [Sl.ttOk, hg]))
    rw [hg] at c1
    clear hg c3
    go_enter Tryz.func14, Tryz.ntmps14
    go_wp2_with fail
    refine c1.mono ?_; rintro q_ w1 ⟨rfl, b1⟩
    go_wp2_with fail
    go_ret3
    exact ⟨_, by rw [HF.out.1, HF.out.2.2]; rfl, by rw [HF.out.2.1]; exact Rd.empty (by decide), b1.alloc b1.size _⟩
  · have c3 := c3 hg
    cases h0 : inB m 0 16
    · have HF := Lib.hid (Sl.tt_no (l := l) (m := m) (by simp [Sl.ttOk, h0]))
      rw [hg] at c1
      rw [h0] at d0
      clear hg h0 c3
      go_enter Tryz.func14, Tryz.ntmps14
      go_wp2_with fail
      refine c1.mono ?_; rintro q_ w1 ⟨rfl, b1⟩
      go_wp2_with fail
      refine (d0 _).mono ?_; rintro q_ w' ⟨rfl, rfl⟩
      go_wp2_with fail
      go_ret3
      exact ⟨_, by rw [HF.out.1, HF.out.2.2]; rfl, by rw [HF.out.2.1]; exact Rd.empty (by decide), b1.alloc b1.size _⟩
    · skip
      rw [hg] at c1
      rw [h0] at d0
      cases hq : Sl.tkOk l m
      · have HF := Lib.hid (Sl.tt_no (l := l) (m := m) (by simp [Sl.ttOk, hq]))
        have hw : Sl.tkW l m = -1 := by simp [Sl.tkW, hq]
        rw [hw] at c3
        clear hg h0 hq hw
        go_enter Tryz.func14, Tryz.ntmps14
        go_wp2_with fail
        refine c1.mono ?_; rintro q_ w1 ⟨rfl, b1⟩
        go_wp2_with fail
        refine (d0 _).mono ?_; rintro q_ w' ⟨rfl, rfl⟩
        go_wp2_with fail
        refine (c3 _ b1).mono ?_; rintro q_ w3 ⟨v', rfl, o1, b3⟩
        replace b1 := b1.trans (b3.mono b1.size)
        clear b3 o1
        go_wp2_with fail
        go_ret3
        exact ⟨_, by rw [HF.out.1, HF.out.2.2]; rfl, by rw [HF.out.2.1]; exact Rd.empty (by decide), b1.alloc b1.size _⟩
      · have HF := Lib.hid (show Sl.ttOk l m = true ∧ Sl.ttR l m = Sl.tkL l m ∧ Sl.ttV l m = Sl.tkW l m from by simp [Sl.ttOk, Sl.ttR, Sl.ttV, Sl.tkL, Sl.tkW, hg, h0, hq])
        have hz : decide (Sl.tkW l m < 0) = false := decide_eq_false (by have := Sl.tk_irq hg hq; simp [Sl.tkW, hq]; exact this)
        generalize Sl.tkW l m = z at c3 hz HF
        clear hg h0 hq
        go_enter Tryz.func14, Tryz.ntmps14
        go_wp2_with fail
        refine c1.mono ?_; rintro q_ w1 ⟨rfl, b1⟩
        go_wp2_with fail
        refine (d0 _).mono ?_; rintro q_ w' ⟨rfl, rfl⟩
        go_wp2_with fail
        refine (c3 _ b1).mono ?_; rintro q_ w3 ⟨v', rfl, o1, b3⟩
        have z3 := b1.size
        go_wp2_with fail
        go_ret3
        exact ⟨v', by rw [HF.out.1, HF.out.2.2]; rfl, by rw [HF.out.2.1]; exact o1, b1.trans (b3.mono z3)⟩
set_option maxHeartbeats 1000000 in
theorem implTakeSlot_any (v : Value) (l : List Sl) (m : Int) (w : World) {lo hi : Nat} (h : Rd Sl.cells 3 w lo hi v l) (hh : hi ≤ w.heap.size) :
    Calls Tryz.prog 13 #[v, .int .i64 m] w fun r w' => ∃ v', r = .returned (.tuple #[v', .int .i64 (Sl.ttV l m), .bool (Sl.ttOk l m)]) ∧ Ow Sl.cells 3 34 w' w.heap.size w'.heap.size v' (Sl.ttR l m) ∧ (Sl.ttR l m).length ≤ 1048576 ∧ Below w.heap.size w w' := by
  have hlen := Sl.ttR_len l m
  have c1 := implAreSlots_any v l w h hh
  have d0 := fun W => isMask_any m W
  have c3 := fun (hg : Sl.good l = true) (W : World) (kb : Below w.heap.size w W) => implTake_in v l m W (h.below kb hh) (Nat.le_trans hh kb.size) hg
  obtain ⟨A, n, c, rfl, H, hc, hm⟩ := h.form
  cases hg : Sl.good l
  · have HF := Lib.hid (Sl.tt_no (l := l) (m := m) (by simp [Sl.ttOk, hg]))
    rw [hg] at c1
    clear hg c3
    go_enter Tryz.func13, Tryz.ntmps13
    go_wp2_with fail
    refine c1.mono ?_; rintro q_ w1 ⟨rfl, b1⟩
    go_wp2_with fail
    go_ret3
    exact ⟨_, by rw [HF.out.1, HF.out.2.2]; rfl, by rw [HF.out.2.1]; exact Ow.nil_, hlen, b1⟩
  · have c3 := c3 hg
    cases h0 : inB m 0 16
    · have HF := Lib.hid (Sl.tt_no (l := l) (m := m) (by simp [Sl.ttOk, h0]))
      rw [hg] at c1
      rw [h0] at d0
      clear hg h0 c3
      go_enter Tryz.func13, Tryz.ntmps13
      go_wp2_with fail
      refine c1.mono ?_; rintro q_ w1 ⟨rfl, b1⟩
      go_wp2_with fail
      refine (d0 _).mono ?_; rintro q_ w' ⟨rfl, rfl⟩
      go_wp2_with fail
      go_ret3
      exact ⟨_, by rw [HF.out.1, HF.out.2.2]; rfl, by rw [HF.out.2.1]; exact Ow.nil_, hlen, b1⟩
    · skip
      have HF := Lib.hid (show Sl.ttOk l m = Sl.tkOk l m ∧ Sl.ttR l m = Sl.tkR l m ∧ Sl.ttV l m = Sl.tkV l m from by simp [Sl.ttOk, Sl.ttR, Sl.ttV, Sl.tkR, Sl.tkV, hg, h0])
      rw [hg] at c1
      rw [h0] at d0
      clear hg h0
      go_enter Tryz.func13, Tryz.ntmps13
      go_wp2_with fail
      refine c1.mono ?_; rintro q_ w1 ⟨rfl, b1⟩
      go_wp2_with fail
      refine (d0 _).mono ?_; rintro q_ w' ⟨rfl, rfl⟩
      go_wp2_with fail
      refine (c3 _ b1).mono ?_; rintro q_ w3 ⟨v', rfl, o1, b3⟩
      have z3 := b1.size
      go_wp2_with fail
      go_ret3
      exact ⟨v', by rw [HF.out.1, HF.out.2.2]; rfl, by rw [HF.out.2.1]; exact o1.mono z3 (Nat.le_refl _), hlen, b1.trans (b3.mono z3)⟩

end Go.Proofs.YtaggjadgbmmjoaaGreatDoor

/- The slot of the least urgent pending interrupt. No condition. -/
namespace Go.Proofs.YtaggjadgbmmjoaaGreatDoor

def Sl.bn (l : List Sl) : Int := Sl.best false l l.length
end Go.Proofs.YtaggjadgbmmjoaaGreatDoor

/- Whether a queue is settled and valid, in the program and in the reference. Condition (the program's inner function): valid slots. -/
namespace Go.Proofs.YtaggjadgbmmjoaaGreatDoor
open Go.RowKit Go.ChangeShapes Go.WideShapes Go.Deep

def Qu.settled (ls : List Sl) (lw : List Wt) : Bool := match lw with
  | [] => true
  | w0 :: _ => decide (Sl.fx ls < 0) && (decide (Sl.bn ls < 0) || (Sl.at_ ls (Sl.bn ls)).wt.lt w0)
end Go.Proofs.YtaggjadgbmmjoaaGreatDoor

/- Where a waiting interrupt comes to stand among others: plain lemmas. No condition. -/
namespace Go.Proofs.YtaggjadgbmmjoaaGreatDoor

/-- where x comes to stand: behind all leading ones that are more urgent -/
def Wt.pos (x : Wt) : List Wt → Nat
  | [] => 0
  | y :: l => if y.lt x then Wt.pos x l + 1 else 0
def Wt.ins (l : List Wt) (x : Wt) : List Wt := l.take (Wt.pos x l) ++ x :: l.drop (Wt.pos x l)
theorem Wt.lt_iff (x y : Wt) : x.lt y = true ↔ x.prio < y.prio ∨ x.prio = y.prio ∧ x.irq < y.irq := by simp [Wt.lt]
theorem Wt.lt_trans {x y z : Wt} (h : x.lt y = true) (k : y.lt z = true) : x.lt z = true := by rw [Wt.lt_iff] at *; omega
theorem Wt.lt_irrefl (x : Wt) : x.lt x = false := by rw [Bool.eq_false_iff, ne_eq, Wt.lt_iff]; omega
end Go.Proofs.YtaggjadgbmmjoaaGreatDoor
