/- append onto an own row of which only its cells and its room are known. No condition but sizes. -/
import Derived.Test.YtaggjadgbmmjoaaBase3
import Derived.Test.YtaggjadgbmmjoaaBox
import Derived.Laws.CopyOwn
import Derived.Laws.Externs
import Derived.Laws.NewBlocks
import Derived.Lib.SliceRun
namespace Go.Proofs.Ytaggjadgbmmjoaa
open Go.RowKit Go.ChangeShapes Go.WideShapes Go.Deep

theorem setCells_setL3 (b : Nat) : ∀ (vs : List Value) (w : World) (o : Nat), w.setCells b o vs = setL w b o vs
  | [], _, _ => rfl
  | v :: vs, w, o => by unfold World.setCells setL; exact setCells_setL3 b vs _ (o + 1)

/-- append into the room that a row has: the new cells are stored behind it -/
theorem run_append_room_ {P : Program} (w : World) (t ty e : TypeId) (i : TypeInfo) (sz : Nat) (ht : P.underlying t = some (.slice e)) (hi : P.info? e = some i) (hs : i.size = sz) (g off n c : Nat) (A2 : Option Addr) (m c2 : Nat) (news : List Value)
    (hsrc : (Builtin.firstCells sz m (.slice A2 m c2)).run P w = .ok news.toArray w) (hroom : n + m ≤ c)
    (hc : ∀ j, j < news.length → (w.cell? ⟨g, off + n * sz + j, none⟩).isSome = true) (hf : ∀ j, j < news.length → w.frozen? ⟨g, off + n * sz + j, none⟩ = false) (h1 : ∀ v ∈ news, v.oneCell' = true) :
    (Builtin.append_ #[t, t] ty #[.slice (some ⟨g, off, none⟩) n c, .slice A2 m c2]).run P w = .ok (.slice (some ⟨g, off, none⟩) (n + m) c) (setL w g (off + n * sz) news) := by
  rw [← setCells_setL3]
  have hst := run_storeCells_cells (P := P) g (off + n * sz) news 0 w (by simpa using hc) (by simpa using hf) h1
  simp only [Nat.add_zero] at hst
  simp [Builtin.append_, run_underlying ht, sizeOf, typeInfo, hi, hs, Builtin.lenOf, hsrc, hroom, Go.WideShapes.add_plain, hst]

theorem run_app_ow {α : Type} {cells : α → List Value} {P : Program} (w : World) (t ty e : TypeId) (i : TypeInfo) (z : Value) (sz bytes : Nat) (ht : P.underlying t = some (.slice e)) (hi : P.info? e = some i) (hz : i.zero = some z)
    (hsize : i.size = sz) (hby : i.bytes = bytes) (hzs : z.cells.size = sz) (hsz : 0 < sz) (hcl : ∀ x, (cells x).length = sz) (h1 : ∀ y u, u ∈ cells y → u.oneCell' = true)
    {lo hi' n c : Nat} {A : Option Addr} {l : List α} (h : Ow cells sz e w lo hi' (.slice A n c) l) (g cx : Nat) (x : α) (hnews : ∀ j u, (cells x)[j]? = some u → w.cell? ⟨g, j, none⟩ = some u)
    (h63 : n + 1 ≤ maxLen) (hbytes : (n + 1) * bytes ≤ 140737488355328) (hlo : lo ≤ w.heap.size) (hhi : hi' ≤ w.heap.size) :
    ∃ v' w', (Builtin.append_ #[t, t] ty #[.slice A n c, .slice (some ⟨g, 0, none⟩) 1 cx]).run P w = .ok v' w' ∧ Ow cells sz e w' lo w'.heap.size v' (l ++ [x]) ∧ (∃ row, w.grownBy w' row ∧ ∀ q, row = some q → lo ≤ q ∧ q < hi') := by
  have hnews' : ∀ j u, (cells x)[j]? = some u → w.cell? ((⟨g, 0, none⟩ : Addr).add j) = some u := fun j u hu => by rw [Go.WideShapes.add_plain, Nat.zero_add]; exact hnews j u hu
  obtain ⟨A', c', hv, hnc, hcm, hx⟩ := h
  injection hv with e1 e2 e3
  subst e1; subst e2; subst e3
  have hll : (l ++ [x]).length = l.length + 1 := by simp
  have hfl : ((l ++ [x]).flatMap cells) = l.flatMap cells ++ cells x := by rw [List.flatMap_append]; simp
  rcases A with _ | a
  · have hc0 : c = 0 := by
      rcases Nat.eq_zero_or_pos c with h0 | h0
      · exact h0
      · obtain ⟨b, off, cur, hA, _⟩ := hx h0; cases hA
    subst hc0
    have hl0 : l = [] := List.eq_nil_of_length_eq_zero (by omega)
    subst hl0
    obtain ⟨v', w', hr, h2, h3, _⟩ := run_append_own (P := P) w lo t ty e i z sz bytes ht hi hz hsize hby hzs hsz (.slice none 0 0) 0 [] (World.ownsRow_nil w lo e sz) ⟨g, 0, none⟩ 1 cx (cells x) (by rw [hcl, Nat.one_mul]) hnews' (h1 x) h63 hbytes hlo
    exact ⟨v', w', hr, Ow.of_own hcl h2 (by simp) (by simp), none, h3, fun q e => by cases e⟩
  · by_cases hroom : l.length + 1 ≤ c
    · obtain ⟨b, off, cur, hA, hb1, hb2, hh, hz2, hxc⟩ := hx (by omega)
      injection hA with hA
      subst hA
      have hmul : (l.length + 1) * sz ≤ c * sz := Nat.mul_le_mul_right _ hroom
      rw [Nat.succ_mul] at hmul
      have hsrc : (Builtin.firstCells sz 1 (.slice (some ⟨g, 0, none⟩) 1 cx)).run P w = .ok (cells x).toArray w := run_firstCells_some (P := P) w sz 1 ⟨g, 0, none⟩ 1 cx (cells x) (by rw [hcl, Nat.one_mul]) hnews'
      have hrun := run_append_room_ (P := P) w t ty e i sz ht hi hsize b off l.length c (some ⟨g, 0, none⟩) 1 cx (cells x) hsrc hroom (fun j hj => by
        rw [cell_of_row w b _ cur e (0, 0) hh]
        rw [hcl] at hj
        have : off + l.length * sz + j < cur.size := by omega
        simp [this]) (fun j _ => frozen_of_row w b _ cur e hh) (h1 x)
      obtain ⟨cur', f1, f2, f3, f4⟩ := setL_row e (cells x) w b (off + l.length * sz) cur hh (by rw [hcl]; omega)
      have hsS := setL_size (cells x) w b (off + l.length * sz)
      refine ⟨_, _, hrun, ⟨_, c, by rw [hll], by omega, hcm, fun _ => ⟨b, off, cur', rfl, hb1, by omega, f1, by omega, fun k y hy j u hu => ?_⟩⟩, some b, setL_grown (cells x) w b _, fun q e => by injection e with e; omega⟩
      have hj : j < sz := by rw [← hcl y]; exact (List.getElem?_eq_some_iff.1 hu).1
      by_cases hk : k < l.length
      · rw [List.getElem?_append_left hk] at hy
        have h5 : (k + 1) * sz ≤ l.length * sz := Nat.mul_le_mul_right _ hk
        rw [Nat.succ_mul] at h5
        rw [f4 _ (by omega)]
        exact hxc k y hy j u hu
      · have hk2 : k = l.length := by
          have := (List.getElem?_eq_some_iff.1 hy).1
          rw [hll] at this; omega
        subst hk2
        simp at hy
        subst hy
        exact f3 j u hu
    · have holds : ∀ j u, (l.flatMap cells)[j]? = some u → w.cell? (a.add j) = some u := by
        intro j u hu
        obtain ⟨k, y, i', hk, hy, rfl⟩ := flat_inv hcl l j u hu
        have hlt := (List.getElem?_eq_some_iff.1 hk).1
        obtain ⟨b, off, cur, hA, _, _, hh, _, hxc⟩ := hx (by omega)
        injection hA with hA
        subst hA
        rw [Go.WideShapes.add_plain, ← Nat.add_assoc, cell_of_row w b _ cur e (0, 0) hh]
        exact hxc k y hk i' u hy
      have hsmall : l.length + 1 ≤ 9223372036854775807 := by simp only [maxLen] at h63; omega
      subst hsize
      subst hby
      have hr := run_append_grow (P := P) w t ty e i z ht hi hz a l.length c (l.flatMap cells) (flat_len hcl l) holds ⟨g, 0, none⟩ 1 cx (cells x) (by rw [hcl, Nat.one_mul]) hnews' (by omega) (by omega) (growslice_fits (by omega) hbytes)
      have hge := grownCap_ge w (l.length + 1) c e
      have hcm2 : grownCap w (l.length + 1) c e ≤ maxLen := grownCap_le_maxLen w (l.length + 1) c e h63
      have hown : (w.drew.alloc (.cells ((l.flatMap cells).toArray ++ (cells x).toArray ++ Builtin.zeroCells z.cells (grownCap w (l.length + 1) c e - (l.length + 1))) e)).ownsRow lo e i.size
          (.slice (some ⟨w.heap.size, 0, none⟩) (l.length + 1) (grownCap w (l.length + 1) c e)) (l.length + 1) (l.flatMap cells ++ cells x) := by
        have hlen : (l.flatMap cells ++ cells x).length = (l.length + 1) * i.size := by rw [List.length_append, flat_len hcl, hcl, Nat.succ_mul]
        refine ⟨hlen, .inr ⟨w.heap.size, _, _, rfl, hlo, heap_alloc_new w.drew _, hge, hcm2, ?_, ?_⟩⟩
        · simp only [Array.size_append, List.size_toArray, size_zeroCells, hzs, flat_len hcl, hcl]
          rw [show l.length * i.size + i.size = (l.length + 1) * i.size by rw [Nat.succ_mul], ← Nat.add_mul]
          congr 1
          omega
        · simp only [Array.toList_append, List.append_assoc]
          rw [← List.append_assoc, ← hlen]
          exact List.take_left
      refine ⟨_, _, hr, Ow.of_own hcl hown hfl.symm hll.symm, none, ⟨rfl, rfl, rfl, by simp, fun k hk _ => (World.grownBy_alloc w.drew _ none).block k hk (by simp)⟩, fun q e => by cases e⟩

theorem wp_app_ow {α : Type} {cells : α → List Value} {P : Program} {w : World} {ops : Array Oper} {rest : List Oper} {o : Oper} {a : Act} {Q : Exit → Act → World → Prop} (hgd : o.guard = none) (s x : Operand) (t : TypeId)
    (ho : o.op = .call { callee := .builtin .append, args := #[s, x], argTypes := #[t, t] })
    (e : TypeId) (i : TypeInfo) (z : Value) (sz bytes : Nat) (ht : P.underlying t = some (.slice e)) (hi : P.info? e = some i) (hz : i.zero = some z)
    (hsize : i.size = sz) (hby : i.bytes = bytes) (hzs : z.cells.size = sz) (hsz : 0 < sz) (hcl : ∀ x, (cells x).length = sz) (h1 : ∀ y u, u ∈ cells y → u.oneCell' = true)
    {lo hi' n c : Nat} {A : Option Addr} {l : List α} (hs : a.eval s = .slice A n c) (h : Ow cells sz e w lo hi' (.slice A n c) l) (g cx : Nat) (y : α) (hx : a.eval x = .slice (some ⟨g, 0, none⟩) 1 cx) (hnews : ∀ j u, (cells y)[j]? = some u → w.cell? ⟨g, j, none⟩ = some u)
    (h63 : n + 1 ≤ maxLen) (hbytes : (n + 1) * bytes ≤ 140737488355328) (hlo : lo ≤ w.heap.size) (hhi : hi' ≤ w.heap.size)
    (hk : ∀ v' w' row, Ow cells sz e w' lo w'.heap.size v' (l ++ [y]) → w.grownBy w' row → (∀ q, row = some q → lo ≤ q ∧ q < hi') → wpList P ops Q rest (a.put o.dst v') w') : wpList P ops Q (o :: rest) a w := by
  refine wpList_plain hgd fun K hK => ?_
  obtain ⟨v', w', hrun, h2, row, h3, h4⟩ := run_app_ow (P := P) w t o.type e i z sz bytes ht hi hz hsize hby hzs hsz hcl h1 h g cx y hnews h63 hbytes hlo hhi
  unfold Oper.wp execOp
  simp only [ho, resolve, invoke, builtin, Sem.run_bind, Sem.run_pure, Result.andThen_ok, List.map_toArray, List.map_cons, List.map_nil, hs, hx, hrun]
  exact hK _ _ (hk v' w' row h2 h3 h4)

end Go.Proofs.Ytaggjadgbmmjoaa
