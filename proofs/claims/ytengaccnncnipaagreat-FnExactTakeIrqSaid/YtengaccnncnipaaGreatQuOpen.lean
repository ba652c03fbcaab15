/- Opening a queue that came in. No condition. -/
import Derived.Test.YtengaccnncnipaaGreatTyQueue
import Derived.Lib.SmallJoins
namespace Go.Proofs.YtengaccnncnipaaGreat
open Go.RowKit Go.ChangeShapes Go.WideShapes Go.Deep

section
variable {H : Type} {enc : TypeId × Value → H} {P : Program} {w : World} {base : Nat} {spare : Nat → Bool} {held : Bool}
theorem open_rd2 {α : Type} [Inhabited α] {cells : α → List Value} {sz : Nat} (hsz : 0 < sz) (hlen : ∀ x, (cells x).length = sz) {t e : TypeId} {fs : Array Field} {v : Value} {fuel : Nat} {y0 : DataW H × List MemPlace} (ht : P.underlying t = some (.slice e)) (he : P.underlying e = some (.struct fs))
    (hone : oneCellFields P fs = true) (hC : P.cellsOf e = fs.size) (hfs : fs.size = sz)
    (helem : ∀ V : Nat → Value, (∀ j f, fs[j]? = some f → ∃ n y, DataW.trod enc P w base spare held n f.type [V j] = some y) → ∃ x : α, ∀ j u, (cells x)[j]? = some u → u = V j)
    (hf : DataW.trod enc P w base spare held fuel t [v] = some y0) : ∃ l : List α, Rd cells sz w 0 w.heap.size v l := by
  rcases open_slice ht hf with ⟨h0, _⟩ | ⟨a, len, cap, m, n, D, Pl, hcs, _, hl, hm, hmm, _, hi⟩
  · simp only [List.cons.injEq, and_true] at h0
    rw [h0]
    exact ⟨[], Rd.nil_⟩
  · simp only [List.cons.injEq, and_true] at hcs
    rw [hcs]
    refine rd_of_cells hsz hlen hl hm fun i hil => ?_
    obtain ⟨cs', hc, ht'⟩ := hi i (by rw [hmm]; split <;> omega)
    rw [hC, hfs] at hc
    obtain ⟨ys, n', _, _, hl', _, hg⟩ := DataW.trod_struct he ht'
    obtain ⟨_, hcl, hat⟩ := World.cells?_some hc
    obtain ⟨x, hx⟩ := helem (fun j => cs'.getD j undef) (fun j f hj => by
      obtain ⟨ho, hk⟩ := hone_of hone j f hj
      have hjl : j < fs.size := (Array.getElem?_eq_some_iff.1 hj).1
      have h1 := hg j f hj
      rw [ho, hk, take1_drop _ _ undef (by omega)] at h1
      cases hys : ys[j]? with
      | none => exact absurd (List.getElem?_eq_none_iff.1 hys) (by omega)
      | some y => exact ⟨_, _, h1.trans hys⟩)
    refine ⟨x, fun j u hu => ?_⟩
    have hj : j < sz := by rw [← hlen x]; exact (List.getElem?_eq_some_iff.1 hu).1
    rw [← Go.Deep.add_add, hat j hj, hx j u hu, List.getD_eq_getElem?_getD, List.getElem?_eq_getElem (by omega)]
    rfl
end

set_option maxRecDepth 8000 in
theorem Sl.openF {H : Type} {enc : TypeId × Value → H} {w : World} {base : Nat} {spare : Nat → Bool} {held : Bool} {v : Value} {fuel : Nat} {y : DataW H × List MemPlace}
    (h : DataW.trod enc Tryz.prog w base spare held fuel 23 [v] = some y) : ∃ l : List Sl, Rd Sl.cells 3 w 0 w.heap.size v l :=
  open_rd2 (by omega) Sl.cells_len Tryz.underlying23 Tryz.underlying132 (by kernel_rfl) Sl.cellsOfLaw rfl (fun V hV => by
    obtain ⟨n0, y0, h0⟩ := hV 0 _ rfl
    obtain ⟨a0, e0, _⟩ := DataW.trod_int Tryz.underlying3 h0
    simp only [List.cons.injEq, and_true] at e0
    obtain ⟨n1, y1, h1⟩ := hV 1 _ rfl
    obtain ⟨a1, e1, _⟩ := DataW.trod_int Tryz.underlying3 h1
    simp only [List.cons.injEq, and_true] at e1
    obtain ⟨n2, y2, h2⟩ := hV 2 _ rfl
    obtain ⟨a2, e2, _⟩ := DataW.trod_int Tryz.underlying3 h2
    simp only [List.cons.injEq, and_true] at e2
    refine ⟨⟨a0, a1, a2⟩, fun j u hu => ?_⟩
    match j with
    | 0 => rw [e0]; exact (Option.some.inj hu).symm
    | 1 => rw [e1]; exact (Option.some.inj hu).symm
    | 2 => rw [e2]; exact (Option.some.inj hu).symm
    | j + 3 => simp [Sl.cells] at hu) h
set_option maxRecDepth 8000 in
theorem Wt.openF {H : Type} {enc : TypeId × Value → H} {w : World} {base : Nat} {spare : Nat → Bool} {held : Bool} {v : Value} {fuel : Nat} {y : DataW H × List MemPlace}
    (h : DataW.trod enc Tryz.prog w base spare held fuel 24 [v] = some y) : ∃ l : List Wt, Rd Wt.cells 2 w 0 w.heap.size v l :=
  open_rd2 (by omega) Wt.cells_len Tryz.underlying24 Tryz.underlying136 (by kernel_rfl) Wt.cellsOfLaw rfl (fun V hV => by
    obtain ⟨n0, y0, h0⟩ := hV 0 _ rfl
    obtain ⟨a0, e0, _⟩ := DataW.trod_int Tryz.underlying3 h0
    simp only [List.cons.injEq, and_true] at e0
    obtain ⟨n1, y1, h1⟩ := hV 1 _ rfl
    obtain ⟨a1, e1, _⟩ := DataW.trod_int Tryz.underlying3 h1
    simp only [List.cons.injEq, and_true] at e1
    refine ⟨⟨a0, a1⟩, fun j u hu => ?_⟩
    match j with
    | 0 => rw [e0]; exact (Option.some.inj hu).symm
    | 1 => rw [e1]; exact (Option.some.inj hu).symm
    | j + 2 => simp [Wt.cells] at hu) h
theorem Qu.cellsOfLaw : Tryz.prog.cellsOf 26 = 2 := by kernel_rfl
set_option maxRecDepth 8000 in
theorem Qu.open_ {H : Type} {enc : TypeId × Value → H} {w : World} {base : Nat} {spare : Nat → Bool} {held : Bool} {r : Reach} {b0 : Nat} {v : Value} {d : DataW H} {p : List MemPlace}
    (hv : Value.okWide Tryz.prog w r b0 26 v) (h : DataW.Trod enc Tryz.prog w base spare held 26 v d p) : ∃ (vs vw : Value) (ls : List Sl) (lw : List Wt), v = .agg #[vs, vw] ∧ Rd Sl.cells 3 w 0 w.heap.size vs ls ∧ Rd Wt.cells 2 w 0 w.heap.size vw lw := by
  obtain ⟨v0, v1, y0, y1, n, rfl, _, _, h0, h1⟩ := Go.Joins.open_agg2 Tryz.underlying26 (by kernel_rfl) Qu.cellsOfLaw hv h
  obtain ⟨ls, k0⟩ := Sl.openF h0
  obtain ⟨lw, k1⟩ := Wt.openF h1
  exact ⟨v0, v1, ls, lw, rfl, k0, k1⟩

end Go.Proofs.YtengaccnncnipaaGreat
