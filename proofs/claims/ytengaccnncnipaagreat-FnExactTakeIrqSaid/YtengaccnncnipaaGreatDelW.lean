/- slices.Delete of one waiting interrupt from a row of the call's own. Condition: the place lies in the row. -/
import Derived.Test.YtengaccnncnipaaGreatTyWaiter
import Derived.Test.YtengaccnncnipaaGreatBase3
import Derived.Test.YtengaccnncnipaaGreatBox
import Derived.Laws.CopyOwn
import Derived.Laws.Externs
import Derived.Laws.NewBlocks
import Derived.Lib.SliceRun
import Derived.Deep.DeepCutAuto
namespace Go.Proofs.YtengaccnncnipaaGreat
open Go.RowKit Go.ChangeShapes Go.WideShapes Go.Deep

theorem setCells_setL2 (b : Nat) : ∀ (vs : List Value) (w : World) (o : Nat), w.setCells b o vs = setL w b o vs
  | [], _, _ => rfl
  | v :: vs, w, o => by unfold World.setCells setL; exact setCells_setL2 b vs _ (o + 1)

/-- append into the room that a row has: the new cells are stored behind it -/
theorem run_append_room {P : Program} (w : World) (t ty e : TypeId) (i : TypeInfo) (sz : Nat) (ht : P.underlying t = some (.slice e)) (hi : P.info? e = some i) (hs : i.size = sz) (g off n c : Nat) (A2 : Option Addr) (m c2 : Nat) (news : List Value)
    (hsrc : (Builtin.firstCells sz m (.slice A2 m c2)).run P w = .ok news.toArray w) (hroom : n + m ≤ c)
    (hc : ∀ j, j < news.length → (w.cell? ⟨g, off + n * sz + j, none⟩).isSome = true) (hf : ∀ j, j < news.length → w.frozen? ⟨g, off + n * sz + j, none⟩ = false) (h1 : ∀ v ∈ news, v.oneCell' = true) :
    (Builtin.append_ #[t, t] ty #[.slice (some ⟨g, off, none⟩) n c, .slice A2 m c2]).run P w = .ok (.slice (some ⟨g, off, none⟩) (n + m) c) (setL w g (off + n * sz) news) := by
  rw [← setCells_setL2]
  have hst := run_storeCells_cells (P := P) g (off + n * sz) news 0 w (by simpa using hc) (by simpa using hf) h1
  simp only [Nat.add_zero] at hst
  simp [Builtin.append_, run_underlying ht, sizeOf, typeInfo, hi, hs, Builtin.lenOf, hsrc, hroom, Go.WideShapes.add_plain, hst]

theorem step_append_room {P : Program} {w : World} {ops : Array Oper} {o : Oper} {a : Act} {K : Act → World → Prop} {Q : Exit → Act → World → Prop} {E : Prop} (hgd : o.guard = none) (s x : Operand) (t : TypeId)
    (ho : o.op = .call { callee := .builtin .append, args := #[s, x], argTypes := #[t, t] }) (v : Value) (w' : World)
    (hrun : (Builtin.append_ #[t, t] o.type #[a.eval s, a.eval x]).run P w = .ok v w') (h : K (a.put o.dst v) w') : if Region.wanted o (yielded ops a.tmps) = true then Oper.wp P o a w K Q else E := by
  have hw : Region.wanted o (yielded ops a.tmps) = true := by simp [Region.wanted, hgd]
  rw [if_pos hw]
  unfold Oper.wp execOp
  simp only [ho, resolve, invoke, builtin, Sem.run_bind, Sem.run_pure, Result.andThen_ok, List.map_toArray, List.map_cons, List.map_nil, hrun]
  exact h

theorem Rd.first {α : Type} {cells : α → List Value} {sz : Nat} {P : Program} {w : World} {lo hi n c : Nat} {A : Option Addr} {l : List α} (hs : ∀ y, (cells y).length = sz) (h : Rd cells sz w lo hi (.slice A n c) l) :
    (Builtin.firstCells sz n (.slice A n c)).run P w = .ok (l.flatMap cells).toArray w := by
  obtain ⟨A', c', hv, hc, hm, hcell⟩ := h
  injection hv with e1 e2 e3
  subst e1; subst e2; subst e3
  rcases A with _ | ad
  · have hl : l = [] := by
      rcases Nat.eq_zero_or_pos l.length with h0 | h0
      · exact List.eq_nil_of_length_eq_zero h0
      · obtain ⟨b, off, hA, _⟩ := hcell h0
        cases hA
    subst hl
    simp [Builtin.firstCells]
  · refine run_firstCells_some w sz l.length ad l.length c (l.flatMap cells) (flat_len hs l) fun j u hu => ?_
    obtain ⟨k, x, i', hk, hx, rfl⟩ := flat_inv hs l j u hu
    have hlt := (List.getElem?_eq_some_iff.1 hk).1
    obtain ⟨b, off, hA, _, _, h⟩ := hcell (by omega)
    injection hA with hA
    subst hA
    rw [Go.WideShapes.add_plain, ← Nat.add_assoc]
    exact h k x hk i' u hx
theorem Ow.cells_in {α : Type} {cells : α → List Value} {sz : Nat} {E : TypeId} {w : World} {lo hi b off n c : Nat} {l : List α} (hs : ∀ y, (cells y).length = sz) (hsz : 0 < sz) (h : Ow cells sz E w lo hi (.slice (some ⟨b, off, none⟩) n c) l) (hn : 0 < n) {j : Nat} (hj : j < n * sz) : (w.cell? ⟨b, off + j, none⟩).isSome = true := by
  obtain ⟨A', c', hv', hc, hm, h⟩ := h
  injection hv' with e1 e2 e3
  subst e1; subst e2; subst e3
  obtain ⟨b', off', cur, hA, hb1, hb2, hh, hx⟩ := h hn
  injection hA with hA
  injection hA with e1 e2
  subst e1; subst e2
  rw [cell_of_row w b _ cur E (0, 0) hh]
  have hl : l[l.length - 1]? = some (l[l.length - 1]'(by omega)) := List.getElem?_eq_getElem _
  have hjj : (cells (l[l.length - 1]'(by omega)))[sz - 1]? = some ((cells (l[l.length - 1]'(by omega)))[sz - 1]'(by rw [hs]; omega)) := List.getElem?_eq_getElem _
  have := (Array.getElem?_eq_some_iff.1 (hx _ _ hl _ _ hjj)).1
  have e : l.length * sz = (l.length - 1) * sz + sz := by rw [← Nat.succ_mul]; congr 1; omega
  have hlt : off + j < cur.size := by omega
  simp [hlt]
theorem Ow.setL_in {α : Type} {cells : α → List Value} {sz : Nat} {E : TypeId} {w : World} {lo hi b off n c : Nat} {l : List α} (hs : ∀ y, (cells y).length = sz) (hsz : 0 < sz) (h : Ow cells sz E w lo hi (.slice (some ⟨b, off, none⟩) n c) l) (hn : 0 < n) (o : Nat) (vs : List Value) (ho : o + vs.length ≤ n * sz) :
    (∀ j, j < n * sz → ((setL w b (off + o) vs).cell? ⟨b, off + j, none⟩).isSome = true) ∧ ∀ j, (setL w b (off + o) vs).frozen? ⟨b, j, none⟩ = false := by
  have hci := fun j (hj : j < n * sz) => h.cells_in hs hsz hn hj
  obtain ⟨A', c', hv', hc, hm, h⟩ := h
  injection hv' with e1 e2 e3
  subst e1; subst e2; subst e3
  obtain ⟨b', off', cur, hA, hb1, hb2, hh, hx⟩ := h hn
  injection hA with hA
  injection hA with e1 e2
  subst e1; subst e2
  have key : ∀ j, j < l.length * sz → off + j < cur.size := fun j hj => by
    have h1 := hci j hj
    rw [cell_of_row w b _ cur E (0, 0) hh] at h1
    obtain ⟨u, hu⟩ := Option.isSome_iff_exists.1 h1
    exact (Array.getElem?_eq_some_iff.1 hu).1
  have hmul : 0 < l.length * sz := Nat.mul_pos hn hsz
  have hlast := key (l.length * sz - 1) (by omega)
  obtain ⟨c1, f1, f2, _, _⟩ := setL_row E vs w b (off + o) cur hh (by omega)
  refine ⟨fun j hj => ?_, fun j => frozen_of_row _ b j c1 E f1⟩
  rw [cell_of_row _ b _ c1 E (0, 0) f1]
  have := key j hj
  have h2 : off + j < c1.size := by omega
  simp [h2]
/-- one element less: what stood behind it has moved down, the last place is whatever -/
theorem Ow.erase {α : Type} {cells : α → List Value} {sz : Nat} {E : TypeId} {w : World} {lo hi b off n c k : Nat} {l : List α} (hs : ∀ y, (cells y).length = sz) (hsz : 0 < sz) (h : Ow cells sz E w lo hi (.slice (some ⟨b, off, none⟩) n c) l) (hk : k < n) (vs : List Value) (hv : vs.length = sz) :
    Ow cells sz E (setL (setL w b (off + k * sz) ((l.drop (k + 1)).flatMap cells)) b (off + (n - 1) * sz) vs) lo hi (.slice (some ⟨b, off, none⟩) (n - 1) c) (l.eraseIdx k) := by
  obtain ⟨A', c', hv', hc, hm, h⟩ := h
  injection hv' with e1 e2 e3
  subst e1; subst e2; subst e3
  obtain ⟨b', off', cur, hA, hb1, hb2, hh, hx⟩ := h (by omega)
  injection hA with hA
  injection hA with e1 e2
  subst e1; subst e2
  have hlast : off + l.length * sz ≤ cur.size := by
    have hl : l[l.length - 1]? = some (l[l.length - 1]'(by omega)) := List.getElem?_eq_getElem _
    have hj : (cells (l[l.length - 1]'(by omega)))[sz - 1]? = some ((cells (l[l.length - 1]'(by omega)))[sz - 1]'(by rw [hs]; omega)) := List.getElem?_eq_getElem _
    have := (Array.getElem?_eq_some_iff.1 (hx _ _ hl _ _ hj)).1
    have e : l.length * sz = (l.length - 1) * sz + sz := by rw [← Nat.succ_mul]; congr 1; omega
    omega
  have hdl : (l.drop (k + 1)).length = l.length - (k + 1) := List.length_drop
  have hfl : ((l.drop (k + 1)).flatMap cells).length = (l.length - (k + 1)) * sz := by rw [flat_len hs, hdl]
  have hmul : k * sz + (l.length - (k + 1)) * sz + sz = l.length * sz := by
    rw [← Nat.add_mul, ← Nat.succ_mul]; congr 1; omega
  have hm1 : (l.length - 1) * sz + sz = l.length * sz := by rw [← Nat.succ_mul]; congr 1; omega
  obtain ⟨c1, f1, f2, f3, f4⟩ := setL_row E ((l.drop (k + 1)).flatMap cells) w b (off + k * sz) cur hh (by rw [hfl]; omega)
  obtain ⟨c2, g1, g2, g3, g4⟩ := setL_row E vs (setL w b (off + k * sz) ((l.drop (k + 1)).flatMap cells)) b (off + (l.length - 1) * sz) c1 f1 (by rw [hv]; omega)
  have hel : (l.eraseIdx k).length = l.length - 1 := by rw [List.length_eraseIdx, if_pos hk]
  refine ⟨_, c, by rw [hel], by omega, hm, fun hn => ⟨b, off, c2, rfl, hb1, hb2, g1, fun i x hi j u hu => ?_⟩⟩
  have hj : j < sz := by rw [← hs x]; exact (List.getElem?_eq_some_iff.1 hu).1
  have hil : i < l.length - 1 := by rw [← hel]; exact (List.getElem?_eq_some_iff.1 hi).1
  have hmi : (i + 1) * sz ≤ (l.length - 1) * sz := Nat.mul_le_mul_right _ (by omega)
  rw [Nat.succ_mul] at hmi
  rw [g4 _ (by omega)]
  rw [List.getElem?_eraseIdx] at hi
  split at hi
  · rename_i hik
    have hmk : (i + 1) * sz ≤ k * sz := Nat.mul_le_mul_right _ (by omega)
    rw [Nat.succ_mul] at hmk
    rw [f4 _ (by omega)]
    exact hx i x hi j u hu
  · rename_i hik
    have h1 : (l.drop (k + 1))[i - k]? = some x := by rw [List.getElem?_drop, show k + 1 + (i - k) = i + 1 by omega]; exact hi
    have h2 := f3 _ u (flat_get hs _ _ x j u h1 hu)
    have hmul2 : k * sz + (i - k) * sz = i * sz := by rw [← Nat.add_mul]; congr 1; omega
    rw [show off + k * sz + ((i - k) * sz + j) = off + i * sz + j by omega] at h2
    exact h2


end Go.Proofs.YtengaccnncnipaaGreat
