/- slices.Delete of one waiting interrupt from a row of the call's own. Condition: the place lies in the row. -/
import Derived.Test.YtghfdoibabaadaaTyWaiter
import Derived.Test.YtghfdoibabaadaaBase3
import Derived.Test.YtghfdoibabaadaaBox
import Derived.Laws.CopyOwn
import Derived.Laws.Externs
import Derived.Laws.NewBlocks
import Derived.Lib.SliceRun
import Derived.Deep.DeepCutAuto
namespace Go.Proofs.Ytghfdoibabaadaa
open Go.RowKit Go.ChangeShapes Go.WideShapes Go.Deep

theorem setCells_setL2 (b : Nat) : ∀ (vs : List Value) (w : World) (o : Nat), w.setCells b o vs = setL w b o vs
  | [], _, _ => rfl
  | v :: vs, w, o => by unfold World.setCells setL; exact setCells_setL2 b vs _ (o + 1)

/-- append into the room that a row has: the new cells are stored behind it -/
theorem run_append_room {P : Program} (w : World) (t ty e : TypeId) (i : TypeInfo) (sz : Nat) (ht : P.underlying t = some (.slice e)) (hi : P.info? e = some i) (hs : i.size = sz) (g off n c : Nat) (A2 : Option Addr) (m c2 : Nat) (news : List Value)
    (hsrc : (Builtin.firstCells sz m (.slice A2 m c2)).run P w = .ok news.toArray w) (hroom : n + m ≤ c)
    (hc : ∀ j, j < news.length → (w.cell? ⟨g, off + n * sz + j, none⟩).isSome = true) (hf : ∀ j, j < news.length → w.frozen? ⟨g, off + n * sz + j, none⟩ = false) (h1 : ∀ v ∈ news, v.oneCell' = true) :
    (Builtin.append_ #[t, t] ty #[.slice (some ⟨g, off, none⟩) n c, .slice A2 m c2]).run P w = .ok (.slice (some ⟨g, off, none⟩) (n + m) c) (setL w g (off + n * sz) news) := by
  rw [← setCells_setL2]
  have hst := run_storeCells_cells (P := P) g (off + n * sz) news 0 w (by simpa using hc) (by simpa using hf) h1
  simp only [Nat.add_zero] at hst
  simp [Builtin.append_, run_underlying ht, sizeOf, typeInfo, hi, hs, Builtin.lenOf, hsrc, hroom, Go.WideShapes.add_plain, hst]

theorem step_append_room {P : Program} {w : World} {ops : Array Oper} {o : Oper} {a : Act} {K : Act → World → Prop} {Q : Exit → Act → World → Prop} {E : Prop} (hgd : o.guard = none) (s x : Operand) (t : TypeId)
    (ho : o.op = .call { callee := .builtin .append, args := #[s, x], argTypes := #[t, t] }) (v : Value) (w' : World)
    (hrun : (Builtin.append_ #[t, t] o.type #[a.eval s, a.eval x]).run P w = .ok v w') (h : K (a.put o.dst v) w') : if Region.wanted o (yielded ops a.tmps) = true then Oper.wp P o a w K Q else E := by
  have hw : Region.wanted o (yielded ops a.tmps) = true := by simp [Region.wanted, hgd]
  rw [if_pos hw]
  unfold Oper.wp execOp
  simp only [ho, resolve, invoke, builtin, Sem.run_bind, Sem.run_pure, Result.andThen_ok, List.map_toArray, List.map_cons, List.map_nil, hrun]
  exact h

theorem Rd.first {α : Type} {cells : α → List Value} {sz : Nat} {P : Program} {w : World} {lo hi n c : Nat} {A : Option Addr} {l : List α} (hs : ∀ y, (cells y).length = sz) (h : Rd cells sz w lo hi (.slice A n c) l) :
    (Builtin.firstCells sz n (.slice A n c)).run P w = .ok (l.flatMap cells).toArray w := by
  obtain ⟨A', c', hv, hc, hm, hcell⟩ := h
  injection hv with e1 e2 e3
  subst e1; subst e2; subst e3
  rcases A with _ | ad
  · have hl : l = [] := by
      rcases Nat.eq_zero_or_pos l.length with h0 | h0
      · exact List.eq_nil_of_length_eq_zero h0
      · obtain ⟨b, off, hA, _⟩ := hcell h0
        cases hA
    subst hl
    simp [Builtin.firstCells]
  · refine run_firstCells_some w sz l.length ad l.length c (l.flatMap cells) (flat_len hs l) fun j u hu => ?_
    obtain ⟨k, x, i', hk, hx, rfl⟩ := flat_inv hs l j u hu
    have hlt := (List.getElem?_eq_some_iff.1 hk).1
    obtain ⟨b, off, hA, _, _, h⟩ := hcell (by omega)
    injection hA with hA
    subst hA
    rw [Go.WideShapes.add_plain, ← Nat.add_assoc]
    exact h k x hk i' u hx
theorem Ow.cells_in {α : Type} {cells : α → List Value} {sz : Nat} {E : TypeId} {w : World} {lo hi b off n c : Nat} {l : List α} (hs : ∀ y, (cells y).length = sz) (hsz : 0 < sz) (h : Ow cells sz E w lo hi (.slice (some ⟨b, off, none⟩) n c) l) (hn : 0 < n) {j : Nat} (hj : j < n * sz) : (w.cell? ⟨b, off + j, none⟩).isSome = true := by
  obtain ⟨A', c', hv', hc, hm, h⟩ := h
  injection hv' with e1 e2 e3
  subst e1; subst e2; subst e3
  obtain ⟨b', off', cur, hA, hb1, hb2, hh, hx⟩ := h hn
  injection hA with hA
  injection hA with e1 e2
  subst e1; subst e2
  rw [cell_of_row w b _ cur E (0, 0) hh]
  have hl : l[l.length - 1]? = some (l[l.length - 1]'(by omega)) := List.getElem?_eq_getElem _
  have hjj : (cells (l[l.length - 1]'(by omega)))[sz - 1]? = some ((cells (l[l.length - 1]'(by omega)))[sz - 1]'(by rw [hs]; omega)) := List.getElem?_eq_getElem _
  have := (Array.getElem?_eq_some_iff.1 (hx _ _ hl _ _ hjj)).1
  have e : l.length * sz = (l.length - 1) * sz + sz := by rw [← Nat.succ_mul]; congr 1; omega
  have hlt : off + j < cur.size := by omega
  simp [hlt]
theorem Ow.setL_in {α : Type} {cells : α → List Value} {sz : Nat} {E : TypeId} {w : World} {lo hi b off n c : Nat} {l : List α} (hs : ∀ y, (cells y).length = sz) (hsz : 0 < sz) (h : Ow cells sz E w lo hi (.slice (some ⟨b, off, none⟩) n c) l) (hn : 0 < n) (o : Nat) (vs : List Value) (ho : o + vs.length ≤ n * sz) :
    (∀ j, j < n * sz → ((setL w b (off + o) vs).cell? ⟨b, off + j, none⟩).isSome = true) ∧ ∀ j, (setL w b (off + o) vs).frozen? ⟨b, j, none⟩ = false := by
  have hci := fun j (hj : j < n * sz) => h.cells_in hs hsz hn hj
  obtain ⟨A', c', hv', hc, hm, h⟩ := h
  injection hv' with e1 e2 e3
  subst e1; subst e2; subst e3
  obtain ⟨b', off', cur, hA, hb1, hb2, hh, hx⟩ := h hn
  injection hA with hA
  injection hA with e1 e2
  subst e1; subst e2
  have key : ∀ j, j < l.length * sz → off + j < cur.size := fun j hj => by
    have h1 := hci j hj
    rw [cell_of_row w b _ cur E (0, 0) hh] at h1
    obtain ⟨u, hu⟩ := Option.isSome_iff_exists.1 h1
    exact (Array.getElem?_eq_some_iff.1 hu).1
  have hmul : 0 < l.length * sz := Nat.mul_pos hn hsz
  have hlast := key (l.length * sz - 1) (by omega)
  obtain ⟨c1, f1, f2, _, _⟩ := setL_row E vs w b (off + o) cur hh (by omega)
  refine ⟨fun j hj => ?_, fun j => frozen_of_row _ b j c1 E f1⟩
  rw [cell_of_row _ b _ c1 E (0, 0) f1]
  have := key j hj
  have h2 : off + j < c1.size := by omega
  simp [h2]
/-- one element less: what stood behind it has moved down, the last place is whatever -/
theorem Ow.erase {α : Type} {cells : α → List Value} {sz : Nat} {E : TypeId} {w : World} {lo hi b off n c k : Nat} {l : List α} (hs : ∀ y, (cells y).length = sz) (hsz : 0 < sz) (h : Ow cells sz E w lo hi (.slice (some ⟨b, off, none⟩) n c) l) (hk : k < n) (vs : List Value) (hv : vs.length = sz) :
    Ow cells sz E (setL (setL w b (off + k * sz) ((l.drop (k + 1)).flatMap cells)) b (off + (n - 1) * sz) vs) lo hi (.slice (some ⟨b, off, none⟩) (n - 1) c) (l.eraseIdx k) := by
  obtain ⟨A', c', hv', hc, hm, h⟩ := h
  injection hv' with e1 e2 e3
  subst e1; subst e2; subst e3
  obtain ⟨b', off', cur, hA, hb1, hb2, hh, hx⟩ := h (by omega)
  injection hA with hA
  injection hA with e1 e2
  subst e1; subst e2
  have hlast : off + l.length * sz ≤ cur.size := by
    have hl : l[l.length - 1]? = some (l[l.length - 1]'(by omega)) := List.getElem?_eq_getElem _
    have hj : (cells (l[l.length - 1]'(by omega)))[sz - 1]? = some ((cells (l[l.length - 1]'(by omega)))[sz - 1]'(by rw [hs]; omega)) := List.getElem?_eq_getElem _
    have := (Array.getElem?_eq_some_iff.1 (hx _ _ hl _ _ hj)).1
    have e : l.length * sz = (l.length - 1) * sz + sz := by rw [← Nat.succ_mul]; congr 1; omega
    omega
  have hdl : (l.drop (k + 1)).length = l.length - (k + 1) := List.length_drop
  have hfl : ((l.drop (k + 1)).flatMap cells).length = (l.length - (k + 1)) * sz := by rw [flat_len hs, hdl]
  have hmul : k * sz + (l.length - (k + 1)) * sz + sz = l.length * sz := by
    rw [← Nat.add_mul, ← Nat.succ_mul]; congr 1; omega
  have hm1 : (l.length - 1) * sz + sz = l.length * sz := by rw [← Nat.succ_mul]; congr 1; omega
  obtain ⟨c1, f1, f2, f3, f4⟩ := setL_row E ((l.drop (k + 1)).flatMap cells) w b (off + k * sz) cur hh (by rw [hfl]; omega)
  obtain ⟨c2, g1, g2, g3, g4⟩ := setL_row E vs (setL w b (off + k * sz) ((l.drop (k + 1)).flatMap cells)) b (off + (l.length - 1) * sz) c1 f1 (by rw [hv]; omega)
  have hel : (l.eraseIdx k).length = l.length - 1 := by rw [List.length_eraseIdx, if_pos hk]
  refine ⟨_, c, by rw [hel], by omega, hm, fun hn => ⟨b, off, c2, rfl, hb1, hb2, g1, fun i x hi j u hu => ?_⟩⟩
  have hj : j < sz := by rw [← hs x]; exact (List.getElem?_eq_some_iff.1 hu).1
  have hil : i < l.length - 1 := by rw [← hel]; exact (List.getElem?_eq_some_iff.1 hi).1
  have hmi : (i + 1) * sz ≤ (l.length - 1) * sz := Nat.mul_le_mul_right _ (by omega)
  rw [Nat.succ_mul] at hmi
  rw [g4 _ (by omega)]
  rw [List.getElem?_eraseIdx] at hi
  split at hi
  · rename_i hik
    have hmk : (i + 1) * sz ≤ k * sz := Nat.mul_le_mul_right _ (by omega)
    rw [Nat.succ_mul] at hmk
    rw [f4 _ (by omega)]
    exact hx i x hi j u hu
  · rename_i hik
    have h1 : (l.drop (k + 1))[i - k]? = some x := by rw [List.getElem?_drop, show k + 1 + (i - k) = i + 1 by omega]; exact hi
    have h2 := f3 _ u (flat_get hs _ _ x j u h1 hu)
    have hmul2 : k * sz + (i - k) * sz = i * sz := by rw [← Nat.add_mul]; congr 1; omega
    rw [show off + k * sz + ((i - k) * sz + j) = off + i * sz + j by omega] at h2
    exact h2

theorem zeroWt (w : World) : (zeroValue 69).run Try.prog w = .ok (.agg #[.int .i64 0, .int .i64 0]) w := by kernel_rfl
theorem Wt.clear1 (w : World) (ty : TypeId) (b o c : Nat) (hc : ∀ j, j < 2 → (w.cell? ⟨b, o + j, none⟩).isSome = true) (hf : ∀ j, j < 2 → w.frozen? ⟨b, o + j, none⟩ = false) :
    (Builtin.clear_ #[29] ty #[.slice (some ⟨b, o, none⟩) 1 c]).run Try.prog w = .ok (.tuple #[]) (setL w b o [.int .i64 0, .int .i64 0]) := by
  rw [← setCells_setL2]
  have hst := run_storeCells_cells (P := Try.prog) b o [.int .i64 0, .int .i64 0] 0 w (by simpa using hc) (by simpa using hf) (by intro v hv; simp at hv; rcases hv with rfl | rfl <;> rfl)
  simp only [Nat.add_zero] at hst
  have hz : (Builtin.zeroCells (Value.agg #[.int .i64 0, .int .i64 0]).cells 1).toList = [.int .i64 0, .int .i64 0] := by simp [Builtin.zeroCells, Value.cells]; rfl
  simp [Builtin.clear_, run_underlying Try.underlying29, hz, hst]
set_option maxHeartbeats 4000000 in
theorem Wt.delete_any (A : Option Addr) (n c : Nat) (l : List Wt) (k : Nat) (w : World) {lo hi : Nat} (h : Ow Wt.cells 2 69 w lo hi (.slice A n c) l) (hh : hi ≤ w.heap.size) (hk : k < n) (hn : n ≤ 1048576) :
    Calls Try.prog 68 #[.slice A n c, .int .i64 k, .int .i64 ((k : Int) + 1)] w fun e w' => ∃ v', e = .returned v' ∧ Ow Wt.cells 2 69 w' lo hi v' (l.eraseIdx k) ∧ Turned w w' (.slice A n c) l.length := by
  obtain ⟨i0, hi0, hz0, hz1, hz2⟩ := info_parts Wt.info
  have hN := h.rd.n_eq
  have hnl := hN.1
  have hnc := hN.2.1
  have hcm : c ≤ 9223372036854775807 := hN.2.2
  clear hN
  obtain ⟨b, off, x, rfl, hx, hb0, hbl, _, _⟩ := Wt.get h.rd hk (Below.refl w.heap.size w) hh
  obtain ⟨m, rfl⟩ : ∃ m, n = m + 1 := ⟨n - 1, by omega⟩
  have hdr := (h.drew.dropn (k := k + 1) (by omega)).rd
  simp only [Option.map_some, Go.WideShapes.add_plain] at hdr
  generalize hB1 : (if c = k + 1 then (some ⟨b, off, none⟩ : Option Addr) else some ⟨b, off + (k + 1) * 2, none⟩) = B1 at hdr
  have HB := Lib.hid hB1
  clear hB1
  have hdl : (l.drop (k + 1)).length = m + 1 - (k + 1) := by rw [List.length_drop]; omega
  have hfl : ((l.drop (k + 1)).flatMap Wt.cells).length = (m + 1 - (k + 1)) * 2 := by rw [flat_len Wt.cells_len, hdl]
  have hfz := h.frozen (by omega)
  have hci := fun j (hj : j < (m + 1) * 2) => h.cells_in Wt.cells_len (by omega) (by omega) hj
  have hrun := fun ty => run_append_room (P := Try.prog) w.drew 29 ty 69 i0 2 Try.underlying29 hi0 hz1 b off k c B1 (m + 1 - (k + 1)) (c - (k + 1)) ((l.drop (k + 1)).flatMap Wt.cells) (hdr.first Wt.cells_len) (by omega)
    (fun j hj => by rw [hfl] at hj; have := hci (k * 2 + j) (by omega); rwa [← Nat.add_assoc] at this) (fun j hj => hfz _) (fun u hu => by obtain ⟨y, _, hy⟩ := List.mem_flatMap.1 hu; exact Wt.one y u hy)
  have he := Ow.erase Wt.cells_len (by omega) h.drew hk [.int .i64 0, .int .i64 0] rfl
  have hkm : k + (m + 1 - (k + 1)) = m := by omega
  simp only [hkm] at hrun
  have hcm1 : ¬ c = m := by omega
  have hmc : m ≤ c := by omega
  have hkc : k ≤ c := by omega
  have h01 : (0 : Int) ≤ (k : Int) + 1 := by omega
  have hkm2 : k ≤ m := by omega
  have HN := Lib.hid hnl
  have hne : ((k : Int) == (k : Int) + 1) = false := by rw [beq_eq_false_iff_ne]; omega
  have hst := h.drew.setL_in Wt.cells_len (by omega) (by omega) (k * 2) ((l.drop (k + 1)).flatMap Wt.cells) (by rw [hfl]; omega)
  have hcl := fun ty => Wt.clear1 (setL w.drew b (off + k * 2) ((l.drop (k + 1)).flatMap Wt.cells)) ty b (off + m * 2) (c - m)
    (fun j hj => by rw [Nat.add_assoc]; exact hst.1 _ (by omega)) (fun j _ => hst.2 _)
  have hw0 : w.grownBy (setL (setL w.drew b (off + k * 2) ((l.drop (k + 1)).flatMap Wt.cells)) b (off + m * 2) [.int .i64 0, .int .i64 0]) (some b) :=
    grown_trans (grown_trans (World.grownBy.mk rfl rfl rfl (Nat.le_refl _) (fun _ _ _ => rfl) : w.grownBy w.drew (some b)) (setL_grown _ _ _ _)) (setL_grown _ _ _ _)
  rw [Nat.add_sub_cancel] at he
  clear hci hfz hdr h hst hfl hdl hkm hnl
  go_enter Try.func68, Try.ntmps68
  go_upto_region 5 with fail
  refine wp_region_any (by kernel_rfl) ?_
  refine wpAny_take (i := 0) (v := .slice (some ⟨b, off, none⟩) (m + 1) c) rfl (by kernel_rfl) (by kernel_rfl) (by kernel_rfl) (fun _ _ _ h => h) (Or.inl ⟨by rfl, by intro w; go_simp⟩) ?_
  refine wpAny_take (i := 1) (v := .int .i64 k) rfl (by kernel_rfl) (by kernel_rfl) (by kernel_rfl) (fun _ _ _ h => h) (Or.inl ⟨by rfl, by intro w; go_simp⟩) ?_
  refine wpAny_take (i := 2) (v := .slice (some ⟨b, off, none⟩) k c) rfl (by kernel_rfl) (by kernel_rfl) (by kernel_rfl) (fun _ _ _ h => h) (Or.inl ⟨by rfl, by intro w; go_simp⟩) ?_
  refine wpAny_take (i := 3) (v := .slice (some ⟨b, off, none⟩) (m + 1) c) rfl (by kernel_rfl) (by kernel_rfl) (by kernel_rfl) (fun _ _ _ h => h) (Or.inl ⟨by rfl, by intro w; go_simp⟩) ?_
  refine wpAny_take (i := 4) (v := .int .i64 ((k : Int) + 1)) rfl (by kernel_rfl) (by kernel_rfl) (by kernel_rfl) (fun _ _ _ h => h) (Or.inl ⟨by rfl, by intro w; go_simp⟩) ?_
  refine wpAny_take (i := 5) (v := .slice B1 (m + 1 - (k + 1)) (c - (k + 1))) rfl (by kernel_rfl) (by kernel_rfl) (by kernel_rfl) (fun _ _ _ h => h) (Or.inl ⟨by rfl, by intro w; go_simp; exact HB.out⟩) ?_
  refine wpAny_ready (rs := [6]) (by kernel_rfl) (by decide) ?_
  refine AllReady.cons rfl (fun K hK => ?_) AllReady.nil
  refine step_append_room rfl _ _ _ rfl _ _ (hrun _) ?_
  clear hrun
  generalize hw1 : setL w.drew b (off + k * 2) ((l.drop (k + 1)).flatMap Wt.cells) = w1 at *
  refine hK _ _ ?_
  refine wpAny_ready (rs := [7]) (by kernel_rfl) (by decide) ?_
  refine AllReady.cons rfl (fun K2 hK2 => ?_) AllReady.nil
  go_simp
  refine hK2 _ _ ?_
  refine ⟨by kernel_rfl, ?_⟩
  go_wp2_with (simp only [hcl])
  go_ret
  exact ⟨_, rfl, he, some b, hw0, fun g e => ⟨by have := HN.out; omega, by simpa [Value.ownBlock] using e⟩⟩

end Go.Proofs.Ytghfdoibabaadaa
