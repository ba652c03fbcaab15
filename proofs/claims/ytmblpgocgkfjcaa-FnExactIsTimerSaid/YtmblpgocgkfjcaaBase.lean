/- Plain lemmas about memory, used by all walks of this seat: a slice that reads as a list, a slice in memory of the call's own, and the frame of a law. No condition. -/
import Derived.Test.YtmblpgocgkfjcaaRows
import Derived.WalkKit
import Derived.ProofKit
import Derived.WalkLawsBesides
import Derived.WalkSpells
import Derived.OpenShut
import Derived.Deep.Slices
import Derived.Deep.Fields
import Derived.Deep.AppendLies
import Derived.Deep.Draws
import Derived.Deep.OwnRows
import Derived.Deep.QuietTactic
import Derived.Deep.RegionHeld3
import Derived.Deep.DeepFit
import Derived.Deep.LoopGhost
import Derived.StillTailTactics
import Derived.BigQuiet
import Derived.BigGuardPart
import Derived.Lib.Hide
import Derived.Lib.SmallJoins
import Derived.Outline
import Derived.Handy
namespace Go.Proofs.Ytmblpgocgkfjcaa
open Go.RowKit Go.ChangeShapes Go.WideShapes Go.Deep

theorem bcell {W w1 : World} {B : Nat} (hb : Below B W w1) : (∀ b o, b < B → w1.cell? ⟨b, o, none⟩ = W.cell? ⟨b, o, none⟩) ∧ (∀ b o, b < B → w1.frozen? ⟨b, o, none⟩ = W.frozen? ⟨b, o, none⟩) :=
  ⟨fun b o h => hb.cell (p := ⟨b, o, none⟩) h, fun b o h => hb.frozen (p := ⟨b, o, none⟩) h⟩
theorem below_drewN {B : Nat} {a w : World} (h : Below B a w) (n : Nat) : Below B a (w.drewN n) := ⟨h.os, h.tape, h.output, h.size, h.block⟩
theorem ret_bool {a b : Bool} (h : a = b) : Ending.returned (.bool a) = .returned (.bool b) := by rw [h]
theorem ret_int {a b : Int} (h : a = b) : Ending.returned (.int .i64 a) = .returned (.int .i64 b) := by rw [h]

/-- The slice value v reads as the list l: element k's cells are 'cells l[k]', sz of them; its block lies in [lo, hi). -/
def Rd {α : Type} (cells : α → List Value) (sz : Nat) (w : World) (lo hi : Nat) (v : Value) (l : List α) : Prop :=
  ∃ A c, v = .slice A l.length c ∧ l.length ≤ c ∧ c ≤ maxLen ∧ (0 < l.length → ∃ b off, A = some ⟨b, off, none⟩ ∧ lo ≤ b ∧ b < hi ∧
    ∀ k x, l[k]? = some x → ∀ j u, (cells x)[j]? = some u → w.cell? ⟨b, off + k * sz + j, none⟩ = some u)

/-- The same, and the cells lie in a block of element type E that nothing has frozen: they may be written. -/
def Ow {α : Type} (cells : α → List Value) (sz : Nat) (E : TypeId) (w : World) (lo : Nat) (v : Value) (l : List α) : Prop :=
  ∃ A c, v = .slice A l.length c ∧ l.length ≤ c ∧ c ≤ maxLen ∧ (0 < l.length → ∃ b off cur, A = some ⟨b, off, none⟩ ∧ lo ≤ b ∧ w.heap[b]? = some (.cells cur E (0, 0)) ∧
    ∀ k x, l[k]? = some x → ∀ j u, (cells x)[j]? = some u → cur[off + k * sz + j]? = some u)

section
variable {α : Type} {cells : α → List Value} {sz : Nat} {E : TypeId} {w w' : World} {lo hi lo' hi' : Nat} {v : Value} {l : List α}

theorem Rd.mono (h : Rd cells sz w lo hi v l) (h1 : lo' ≤ lo) (h2 : hi ≤ hi') : Rd cells sz w lo' hi' v l := by
  obtain ⟨A, c, hv, hc, hm, h⟩ := h
  refine ⟨A, c, hv, hc, hm, fun hn => ?_⟩
  obtain ⟨b, off, hA, hb1, hb2, h⟩ := h hn
  exact ⟨b, off, hA, by omega, by omega, h⟩
theorem Rd.keep (h : Rd cells sz w lo hi v l) (hk : ∀ b o, lo ≤ b → b < hi → w'.cell? ⟨b, o, none⟩ = w.cell? ⟨b, o, none⟩) : Rd cells sz w' lo hi v l := by
  obtain ⟨A, c, hv, hc, hm, h⟩ := h
  refine ⟨A, c, hv, hc, hm, fun hn => ?_⟩
  obtain ⟨b, off, hA, hb1, hb2, h⟩ := h hn
  exact ⟨b, off, hA, hb1, hb2, fun k x hx j u hu => (hk _ _ hb1 hb2).trans (h k x hx j u hu)⟩
theorem Rd.below {B : Nat} (h : Rd cells sz w lo hi v l) (hb : Below B w w') (hB : hi ≤ B) : Rd cells sz w' lo hi v l :=
  h.keep fun b o _ h2 => hb.cell (p := ⟨b, o, none⟩) (Nat.lt_of_lt_of_le h2 hB)
/-- only block g may have turned -/
theorem Rd.grown {row : Option Nat} (h : Rd cells sz w lo hi v l) (hg : w.grownBy w' row) (hB : hi ≤ w.heap.size) (hr : ∀ g, row = some g → g < lo ∨ hi ≤ g) : Rd cells sz w' lo hi v l :=
  h.keep fun b o h1 h2 => World.cell?_of_block (a := ⟨b, o, none⟩) (hg.block b (by omega) (fun e => by have := hr _ e.symm; omega))
theorem Rd.len (h : Rd cells sz w lo hi v l) : l.length ≤ maxLen := by
  obtain ⟨A, c, _, hc, hm, _⟩ := h; omega
theorem Rd.nil_ : Rd cells sz w lo hi (.slice none 0 0) [] := ⟨none, 0, rfl, Nat.le_refl _, Nat.zero_le _, fun h => absurd h (by simp)⟩

theorem Ow.rd (h : Ow cells sz E w lo v l) : Rd cells sz w lo w.heap.size v l := by
  obtain ⟨A, c, hv, hc, hm, h⟩ := h
  refine ⟨A, c, hv, hc, hm, fun hn => ?_⟩
  obtain ⟨b, off, cur, hA, hb1, hh, h⟩ := h hn
  refine ⟨b, off, hA, hb1, (Array.getElem?_eq_some_iff.1 hh).1, fun k x hx j u hu => ?_⟩
  rw [cell_of_row w b _ cur E (0, 0) hh]
  exact h k x hx j u hu
theorem Ow.mono (h : Ow cells sz E w lo v l) (h1 : lo' ≤ lo) : Ow cells sz E w lo' v l := by
  obtain ⟨A, c, hv, hc, hm, h⟩ := h
  refine ⟨A, c, hv, hc, hm, fun hn => ?_⟩
  obtain ⟨b, off, cur, hA, hb1, hh, h⟩ := h hn
  exact ⟨b, off, cur, hA, by omega, hh, h⟩
theorem Ow.keep (h : Ow cells sz E w lo v l) (hk : ∀ b, lo ≤ b → b < w.heap.size → w'.heap[b]? = w.heap[b]?) : Ow cells sz E w' lo v l := by
  obtain ⟨A, c, hv, hc, hm, h⟩ := h
  refine ⟨A, c, hv, hc, hm, fun hn => ?_⟩
  obtain ⟨b, off, cur, hA, hb1, hh, h⟩ := h hn
  exact ⟨b, off, cur, hA, hb1, (hk b hb1 (Array.getElem?_eq_some_iff.1 hh).1).trans hh, h⟩
theorem Ow.below (h : Ow cells sz E w lo v l) (hb : Below w.heap.size w w') : Ow cells sz E w' lo v l := h.keep fun b _ h2 => hb.block b h2
theorem Ow.grown {row : Option Nat} (h : Ow cells sz E w lo v l) (hg : w.grownBy w' row) (hr : ∀ g, row = some g → g < lo) : Ow cells sz E w' lo v l :=
  h.keep fun b h1 h2 => hg.block b h2 (fun e => by have := hr _ e.symm; omega)
theorem Ow.nil_ : Ow cells sz E w lo (.slice none 0 0) [] := ⟨none, 0, rfl, Nat.le_refl _, Nat.zero_le _, fun h => absurd h (by simp)⟩

theorem flat_get (hs : ∀ x, (cells x).length = sz) : ∀ (l : List α) (k : Nat) (x : α) (j : Nat) (u : Value), l[k]? = some x → (cells x)[j]? = some u → (l.flatMap cells)[k * sz + j]? = some u
  | [], k, x, j, u, h, _ => by simp at h
  | y :: l, 0, x, j, u, h, hu => by
    simp only [List.getElem?_cons_zero, Option.some.injEq] at h
    subst h
    obtain ⟨hj, _⟩ := List.getElem?_eq_some_iff.1 hu
    simp only [List.flatMap_cons, Nat.zero_mul, Nat.zero_add]
    rw [List.getElem?_append_left hj]; exact hu
  | y :: l, k + 1, x, j, u, h, hu => by
    simp only [List.getElem?_cons_succ] at h
    have ih := flat_get hs l k x j u h hu
    simp only [List.flatMap_cons]
    rw [List.getElem?_append_right (by rw [hs]; rw [Nat.succ_mul]; omega), hs, show (k + 1) * sz + j - sz = k * sz + j by rw [Nat.succ_mul]; omega]
    exact ih
theorem flat_len (hs : ∀ x, (cells x).length = sz) : ∀ l : List α, (l.flatMap cells).length = l.length * sz
  | [] => by simp
  | y :: l => by rw [List.flatMap_cons, List.length_append, hs, flat_len hs l, List.length_cons, Nat.succ_mul]; omega

/-- what append and make leave, as a list of elements -/
theorem Ow.of_own (hs : ∀ x, (cells x).length = sz) {n : Nat} {xs : List Value} (h : w.ownsRow lo E sz v n xs) (hx : xs = l.flatMap cells) (hn : n = l.length) : Ow cells sz E w lo v l := by
  subst hx; subst hn
  obtain ⟨h1, ⟨rfl, h0⟩ | ⟨g, cap, cur, rfl, hb, hh, hc, hm, hz, ht⟩⟩ := h
  · have : l = [] := List.eq_nil_of_length_eq_zero h0
    subst this; exact Ow.nil_
  · refine ⟨_, cap, rfl, hc, hm, fun _ => ⟨g, 0, cur, rfl, hb, hh, fun k x hx j u hu => ?_⟩⟩
    have hg := flat_get hs l k x j u hx hu
    rw [← ht, List.getElem?_take] at hg
    split at hg
    · rw [Nat.zero_add]; simpa using hg
    · cases hg
end

/-! ### Arguments opened: a slice of structs of one-cell fields, a slice of one-cell elements -/
section
variable {H : Type} {enc : TypeId × Value → H} {P : Program} {w : World} {base : Nat} {spare : Nat → Bool} {held : Bool}
theorem rd_of_cells {α : Type} [Inhabited α] {cells : α → List Value} {sz : Nat} (hsz : 0 < sz) (hlen : ∀ x, (cells x).length = sz) {a : Addr} {len cap : Nat} (hl : len ≤ cap) (hm : cap ≤ maxLen)
    (h : ∀ i, i < len → ∃ x : α, ∀ j u, (cells x)[j]? = some u → w.cell? (a.add (i * sz + j)) = some u) : ∃ l : List α, Rd cells sz w 0 w.heap.size (.slice (some a) len cap) l := by
  obtain ⟨f, hf⟩ := choose_lt h
  refine ⟨(List.range len).map f, some a, cap, by simp, by simpa using hl, hm, fun hn => ?_⟩
  have hn' : 0 < len := by simpa using hn
  obtain ⟨b, off, spot⟩ := a
  have h0 : ∀ j u, (cells (f 0))[j]? = some u → w.cell? ((⟨b, off, spot⟩ : Addr).add (0 * sz + j)) = some u := hf 0 hn'
  have hc0 : (cells (f 0))[0]? = some ((cells (f 0))[0]'(by rw [hlen]; exact hsz)) := List.getElem?_eq_getElem _
  have h00 := h0 0 _ hc0
  have hspot : spot = none := by simpa [Addr.add] using World.cell?_spot h00
  subst hspot
  refine ⟨b, off, rfl, Nat.zero_le _, by simpa [Addr.add] using World.block_lt_of_cell? w _ h00, fun k x hx j u hu => ?_⟩
  simp only [List.getElem?_map, Option.map_eq_some_iff] at hx
  obtain ⟨i, hi, rfl⟩ := hx
  obtain ⟨hlt, hi'⟩ := List.getElem?_eq_some_iff.1 hi
  simp only [List.getElem_range] at hi'
  subst hi'
  have := hf k (by simpa using hlt) j u hu
  rwa [Go.WideShapes.add_plain, ← Nat.add_assoc] at this

theorem open_rd {α : Type} [Inhabited α] {cells : α → List Value} {sz : Nat} (hsz : 0 < sz) (hlen : ∀ x, (cells x).length = sz) {t e : TypeId} {fs : Array Field} {v : Value} {d : DataW H} {p : List MemPlace} {r : Reach} {b0 : Nat} (ht : P.underlying t = some (.slice e)) (he : P.underlying e = some (.struct fs))
    (hone : oneCellFields P fs = true) (hC : P.cellsOf e = fs.size) (hfs : fs.size = sz)
    (helem : ∀ V : Nat → Value, (∀ j f, fs[j]? = some f → ∃ n y, DataW.trod enc P w base spare held n f.type [V j] = some y) → ∃ x : α, ∀ j u, (cells x)[j]? = some u → u = V j)
    (hv : Value.okWide P w r b0 t v) (h : DataW.Trod enc P w base spare held t v d p) : ∃ l : List α, Rd cells sz w 0 w.heap.size v l := by
  obtain ⟨a0, len0, cap0, rfl⟩ := okWide_slice ht hv
  obtain ⟨fuel, hf⟩ := h
  rcases open_slice ht (by simpa [Value.cells] using hf) with ⟨h0, _⟩ | ⟨a, len, cap, m, n, D, Pl, hcs, _, hl, hm, hmm, _, hi⟩
  · simp only [List.cons.injEq, and_true] at h0
    rw [h0]
    exact ⟨[], Rd.nil_⟩
  · simp only [List.cons.injEq, and_true] at hcs
    rw [hcs]
    refine rd_of_cells hsz hlen hl hm fun i hil => ?_
    obtain ⟨cs', hc, ht'⟩ := hi i (by rw [hmm]; split <;> omega)
    rw [hC, hfs] at hc
    obtain ⟨ys, n', _, _, hl', _, hg⟩ := DataW.trod_struct he ht'
    obtain ⟨_, hcl, hat⟩ := World.cells?_some hc
    obtain ⟨x, hx⟩ := helem (fun j => cs'.getD j undef) (fun j f hj => by
      obtain ⟨ho, hk⟩ := hone_of hone j f hj
      have hjl : j < fs.size := (Array.getElem?_eq_some_iff.1 hj).1
      have h1 := hg j f hj
      rw [ho, hk, take1_drop _ _ undef (by omega)] at h1
      cases hys : ys[j]? with
      | none => exact absurd (List.getElem?_eq_none_iff.1 hys) (by omega)
      | some y => exact ⟨_, _, h1.trans hys⟩)
    refine ⟨x, fun j u hu => ?_⟩
    have hj : j < sz := by rw [← hlen x]; exact (List.getElem?_eq_some_iff.1 hu).1
    rw [← Go.Deep.add_add, hat j hj, hx j u hu, List.getD_eq_getElem?_getD, List.getElem?_eq_getElem (by omega)]
    rfl

theorem open_rd1 {α : Type} [Inhabited α] {c : α → Value} {t e : TypeId} {v : Value} {d : DataW H} {p : List MemPlace} {r : Reach} {b0 : Nat} (ht : P.underlying t = some (.slice e)) (hC : P.cellsOf e = 1)
    (helem : ∀ (cs : List Value) (n : Nat) (y : DataW H × List MemPlace), DataW.trod enc P w base spare held n e cs = some y → ∃ x : α, cs = [c x])
    (hv : Value.okWide P w r b0 t v) (h : DataW.Trod enc P w base spare held t v d p) : ∃ l : List α, Rd (fun x => [c x]) 1 w 0 w.heap.size v l := by
  obtain ⟨a0, len0, cap0, rfl⟩ := okWide_slice ht hv
  obtain ⟨fuel, hf⟩ := h
  rcases open_slice ht (by simpa [Value.cells] using hf) with ⟨h0, _⟩ | ⟨a, len, cap, m, n, D, Pl, hcs, _, hl, hm, hmm, _, hi⟩
  · simp only [List.cons.injEq, and_true] at h0
    rw [h0]
    exact ⟨[], Rd.nil_⟩
  · simp only [List.cons.injEq, and_true] at hcs
    rw [hcs]
    refine rd_of_cells Nat.one_pos (fun _ => rfl) hl hm fun i hil => ?_
    obtain ⟨cs', hc, ht'⟩ := hi i (by rw [hmm]; split <;> omega)
    rw [hC] at hc
    obtain ⟨x, rfl⟩ := helem cs' _ _ ht'
    obtain ⟨_, hcl, hat⟩ := World.cells?_some hc
    refine ⟨x, fun j u hu => ?_⟩
    have hj : j < 1 := (List.getElem?_eq_some_iff.1 hu).1
    rw [← Go.Deep.add_add, hat j hj]; exact hu
end

/-! ### The frame of a law: from a contract 'returns true, and nothing that was there has turned' to the given form -/

theorem trodAll_below {H : Type} {enc : TypeId × Value → H} {P : Program} (hl : laidOutB P = true) {W W' : World} (hb : Below W.heap.size W W') :
    ∀ (ts : List TypeId) (vs : List Value) (ds : List (DataW H)) (ps : List MemPlace), ts.all (fun t => P.readableRec t && decide (t < P.types.size)) = true →
      DataW.TrodAll enc P W 0 (fun _ => true) true ts vs ds ps → (∀ x ∈ ps, x.block < W.heap.size) → DataW.TrodAll enc P W' 0 (fun b => decide (b < W.heap.size)) true ts vs ds ps
  | [], vs, ds, ps, _, h, _ => by
    obtain ⟨rfl, rfl, rfl⟩ := trodAll_nil h
    exact trodAll_mk0
  | t :: ts, vs, ds, ps, hr, h, hp => by
    simp only [List.all_cons, Bool.and_eq_true, decide_eq_true_eq] at hr
    obtain ⟨v, vs', d, ds', p, q, rfl, rfl, rfl, hd, hrest⟩ := trodAll_cons h
    exact trodAll_cons_mk (Below.trod hl hr.1.1 hr.1.2 hd hb (fun x hx => hp x (by simp [hx]))) (trodAll_below hl hb ts vs' ds' q (by simpa using hr.2) hrest (fun x hx => hp x (by simp [hx])))

theorem law_lifted {C : Checked} {os : Os} {f : FuncId} {fn : Func} {s : ChangeSpec} {H : Type} {enc : TypeId × Value → H} {tb : TypeId}
    (own : ownKnob C.prog.godebug = none) (started : os.Started) (noInit : C.prog.inits.idxOf? f = none) (hfn : C.prog.funcs[f]? = some fn)
    (witness : ∃ (w : World) (tape : Tape) (i : Input), w.os = os ∧ (w.forCall tape i).Shaped C.prog ∧ i.vars = [] ∧ Input.okWide C.prog (w.forCall tape i) .any w.heap.size f i ∧
      s.pre6 enc C.prog fn [] false (w.forCall tape i).memory i.args ∧ ({} : Assume).holds C.prog (lone (Frame.enter C.prog f i.args .normal) [] (w.forCall tape i)))
    (hl : laidOutB C.prog = true) (hpar : fn.params.toList.all (fun t => C.prog.readableRec t && decide (t < C.prog.types.size)) = true)
    (hvars : s.vars = []) (hrt : fn.resultTypes = #[tb]) (hbt : C.prog.underlying tb = some .bool)
    (hspec : ∀ ds : List (DataW H), ds.length = fn.params.size → s.fn H ds = { results := [.lit (.bool true)], args := ds })
    (walk : ∀ (W : World) (base : Nat) (args : Array Value) (ds : List (DataW H)) (p : List MemPlace),
      (∀ (j : Nat) t v, fn.params[j]? = some t → args[j]? = some v → Value.okWide C.prog W .any base t v) →
      DataW.TrodAll enc C.prog W 0 (fun _ => true) true fn.params.toList args.toList ds p →
      Calls C.prog f args W fun e W' => e = .returned (.bool true) ∧ Below W.heap.size W W') :
    ReturnsInHanded {} C os f .any (s.pre6 enc C.prog fn [] false) (s.post enc C.prog fn false true false false) := by
  refine returnsInHanded_of_change own started noInit hfn witness ?_
  intro W base args ds gs before hval hW _ _
  have hlt : ∀ p ∈ before, p.block < W.heap.size := fun p hp => hW.lt p hp
  have hW' := hW
  obtain ⟨p, q, hA, hV, rfl, _, _⟩ := hW
  rw [hvars] at hV
  obtain ⟨rfl, rfl⟩ := trodVars_none hV
  have hlen : ds.length = fn.params.size := by
    have h2 : ∀ (ts : List TypeId) (vs : List Value) (ds : List (DataW H)) (ps : List MemPlace), DataW.TrodAll enc C.prog W 0 (fun _ => true) true ts vs ds ps → ds.length = ts.length := by
      intro ts
      induction ts with
      | nil => intro vs ds ps h; obtain ⟨_, rfl, _⟩ := trodAll_nil h; rfl
      | cons t ts ih => intro vs ds ps h; obtain ⟨v, vs', d, ds', p, q, _, rfl, _, _, h⟩ := trodAll_cons h; simp [ih _ _ _ h]
    rw [h2 _ _ _ _ hA]; simp
  have hs := hspec ds hlen
  simp only [List.append_nil] at hW' hlt
  refine (walk W base args ds p hval hA).mono fun e W' ⟨he, hb⟩ => ⟨_, he, ?_⟩
  refine ⟨ds, [], p, [], p, [], hW', ?_, ?_, ?_, World.keptBut_mono (fun x hx => ⟨hx, .inr (.inl hx)⟩) (hb.frame _), fun h => by cases h⟩
  · rw [List.append_nil, hs, hrt]; exact trodAll_mk1 (shut_bool hbt true)
  · rw [List.append_nil, hs]; exact trodAll_below hl hb _ _ _ _ hpar hA hlt
  · rw [List.append_nil, hs, hvars]; exact rfl

end Go.Proofs.Ytmblpgocgkfjcaa
