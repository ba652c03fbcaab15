/- slices.Insert of one waiting interrupt into a row of the call's own. Condition: the place lies in the row or at its end, at most 1048576 elements. -/
import Derived.Test.YtengaccnncnipaaGreatTyWaiter
import Derived.Test.YtengaccnncnipaaGreatBase3
import Derived.Laws.CopyOwn
import Derived.Laws.Externs
import Derived.Laws.NewBlocks
import Derived.Lib.Overlaps
import Derived.Lib.AppendZerosOnto
namespace Go.Proofs.YtengaccnncnipaaGreat
open Go.RowKit Go.ChangeShapes Go.WideShapes Go.Deep

/-- copy into a row known whole, elements of any size -/
theorem run_copy_sz {P : Program} (w : World) (dT sT ty elem : TypeId) (i : TypeInfo) (g o dLen dCap : Nat) (a : Addr) (sLen sCap : Nat) (cur : List Value) (t : TypeId) (cs : List Value) (sz m : Nat)
    (hu : P.underlying dT = some (.slice elem)) (hi : P.info? elem = some i) (hs : i.size = sz)
    (hg : w.heap[g]? = some (.cells cur.toArray t (0, 0))) (hm : m = Nat.min sLen dLen) (hn : cs.length = m * sz)
    (hsrc : ∀ j v, cs[j]? = some v → w.cell? (a.add j) = some v) (hfit : o + cs.length ≤ cur.length) (h1 : ∀ v ∈ cs, v.oneCell' = true) :
    (Builtin.copy_ #[dT, sT] ty #[.slice (some ⟨g, o, none⟩) dLen dCap, .slice (some a) sLen sCap]).run P w =
      .ok (goInt m) (w.setRow g (splice cur o cs).toArray) := by
  have hl := run_loadCells_list (P := P) w a cs hsrc
  have hst := run_storeCells_at P g o t cs 0 cur.toArray w hg (by simpa using hfit) h1
  simp [Builtin.copy_, run_underlying hu, Builtin.lenOf, Builtin.firstCells, sizeOf, typeInfo, hi, hs, ← hm, ← hn, hl, hst, splice]

theorem wpList_copy_sz {P : Program} {w : World} {ops : Array Oper} {rest : List Oper} {o : Oper} {a : Act} {Q : Exit → Act → World → Prop} (hgd : o.guard = none) (d s : Operand) (dT sT : TypeId)
    (ho : o.op = .call { callee := .builtin .copy, args := #[d, s], argTypes := #[dT, sT] }) (elem : TypeId) (i : TypeInfo) (sz : Nat) (hu : P.underlying dT = some (.slice elem)) (hi : P.info? elem = some i) (hz : i.size = sz)
    (g off dLen dCap : Nat) (ad : Addr) (sLen sCap : Nat) (hd : a.eval d = .slice (some ⟨g, off, none⟩) dLen dCap) (hs : a.eval s = .slice (some ad) sLen sCap)
    (cur : List Value) (t : TypeId) (hg : w.heap[g]? = some (.cells cur.toArray t (0, 0))) (cs : List Value) (m : Nat) (hm : m = Nat.min sLen dLen) (hn : cs.length = m * sz)
    (hsrc : ∀ j v, cs[j]? = some v → w.cell? (ad.add j) = some v) (hfit : off + cs.length ≤ cur.length) (h1 : ∀ v ∈ cs, v.oneCell' = true) (B : Nat) (w0 : World) (hb : Below B w0 w) (hBg : B ≤ g)
    (h : ∀ w', Hid (w'.heap[g]? = some (.cells (splice cur off cs).toArray t (0, 0))) → Below B w0 w' → (∀ q, q ≠ g → w'.heap[q]? = w.heap[q]?) → wpList P ops Q rest (a.put o.dst (goInt m)) w') :
    wpList P ops Q (o :: rest) a w := by
  refine wpList_plain hgd fun K hK => ?_
  have hrun := run_copy_sz (P := P) w dT sT o.type elem i g off dLen dCap ad sLen sCap cur t cs sz m hu hi hz hg hm hn hsrc hfit h1
  unfold Oper.wp
  simp [execOp, ho, resolve, invoke, builtin, hd, hs, hrun, Result.andThen]
  exact hK _ _ (h _ (setRow_heap w g _ _ t _ hg) (below_setRow hb hBg _) fun q hq => setRow_other w g q _ hq)

theorem step_copy_sz {P : Program} {ops : Array Oper} {o : Oper} {a : Act} {w : World} {K : Act → World → Prop} {Q : Exit → Act → World → Prop} {E : Prop} (hgd : o.guard = none) (d s : Operand) (dT sT : TypeId)
    (ho : o.op = .call { callee := .builtin .copy, args := #[d, s], argTypes := #[dT, sT] }) (elem : TypeId) (i : TypeInfo) (sz : Nat) (hu : P.underlying dT = some (.slice elem)) (hi : P.info? elem = some i) (hz : i.size = sz)
    (g off dLen dCap : Nat) (ad : Addr) (sLen sCap : Nat) (hd : a.eval d = .slice (some ⟨g, off, none⟩) dLen dCap) (hs : a.eval s = .slice (some ad) sLen sCap)
    (cur : List Value) (t : TypeId) (hg : w.heap[g]? = some (.cells cur.toArray t (0, 0))) (cs : List Value) (m : Nat) (hm : m = Nat.min sLen dLen) (hn : cs.length = m * sz)
    (hsrc : ∀ j v, cs[j]? = some v → w.cell? (ad.add j) = some v) (hfit : off + cs.length ≤ cur.length) (h1 : ∀ v ∈ cs, v.oneCell' = true) (B : Nat) (w0 : World) (hb : Below B w0 w) (hBg : B ≤ g)
    (h : ∀ w', Hid (w'.heap[g]? = some (.cells (splice cur off cs).toArray t (0, 0))) → Below B w0 w' → (∀ q, q ≠ g → w'.heap[q]? = w.heap[q]?) → K (a.put o.dst (goInt m)) w') :
    if Region.wanted o (yielded ops a.tmps) = true then Oper.wp P o a w K Q else E := by
  have hw : Region.wanted o (yielded ops a.tmps) = true := by simp [Region.wanted, hgd]
  rw [if_pos hw]
  have hrun := run_copy_sz (P := P) w dT sT o.type elem i g off dLen dCap ad sLen sCap cur t cs sz m hu hi hz hg hm hn hsrc hfit h1
  unfold Oper.wp
  simp [execOp, ho, resolve, invoke, builtin, hd, hs, hrun, Result.andThen]
  exact h _ (setRow_heap w g _ _ t _ hg) (below_setRow hb hBg _) fun q hq => setRow_other w g q _ hq

theorem splice_len {α : Type} (L : List α) (off : Nat) (cs : List α) (h : off + cs.length ≤ L.length) : (splice L off cs).length = L.length := length_splice L off cs h
/-- shifting in place, then the new one -/
theorem splice_room {α : Type} (L X Y : List α) (a : Nat) (ha : a ≤ X.length) (hL : L.take X.length = X) (hl : X.length + Y.length ≤ L.length) :
    (splice (splice L (a + Y.length) (X.drop a)) a Y).take (X.length + Y.length) = X.take a ++ Y ++ X.drop a := by
  have h1 : L.take a = X.take a := by rw [← hL, List.take_take, Nat.min_eq_left (by omega)]
  have e1 : (L.take (a + Y.length)).length = a + Y.length := by simp; omega
  have e2 : (splice L (a + Y.length) (X.drop a)).take a = X.take a := by
    unfold splice
    rw [List.take_append_of_le_length (by omega), List.take_take, Nat.min_eq_left (by omega), h1]
  have e3 : (splice L (a + Y.length) (X.drop a)).drop (a + Y.length) = X.drop a ++ L.drop (a + Y.length + (X.drop a).length) := by
    unfold splice
    rw [List.drop_append_of_le_length (by omega), List.drop_eq_nil_of_le (by omega)]; simp
  rw [splice, e2, e3]
  have e4 : X.take a ++ (Y ++ (X.drop a ++ L.drop (a + Y.length + (X.drop a).length))) = (X.take a ++ Y ++ X.drop a) ++ L.drop (a + Y.length + (X.drop a).length) := by simp
  rw [e4, List.take_append_of_le_length (by simp; omega), List.take_of_length_le (by simp; omega)]
/-- a new row: what stood ahead, the new one, what stood behind -/
theorem splice_grow {α : Type} (L X Y : List α) (a : Nat) (ha : a ≤ X.length) (hL : L.take a = X.take a) :
    (splice (splice L a Y) (a + Y.length) (X.drop a)).take (X.length + Y.length) = X.take a ++ Y ++ X.drop a := by
  have e2 : (splice L a Y).take (a + Y.length) = X.take a ++ Y := by
    unfold splice
    rw [hL, ← List.append_assoc, List.take_append_of_le_length (by simp; omega), List.take_of_length_le (by simp; omega)]
  rw [splice, e2]
  have e4 : X.take a ++ Y ++ (X.drop a ++ (splice L a Y).drop (a + Y.length + (X.drop a).length)) = (X.take a ++ Y ++ X.drop a) ++ (splice L a Y).drop (a + Y.length + (X.drop a).length) := by simp
  rw [e4, List.take_append_of_le_length (by simp; omega), List.take_of_length_le (by simp; omega)]

theorem flat_take {α β : Type} {f : α → List β} {sz : Nat} (hf : ∀ x, (f x).length = sz) : ∀ (l : List α) (i : Nat), (l.take i).flatMap f = (l.flatMap f).take (i * sz)
  | [], i => by simp
  | x :: l, 0 => by simp
  | x :: l, i + 1 => by
    have h1 : (i + 1) * sz = (f x).length + i * sz := by rw [hf x, Nat.add_mul]; omega
    rw [List.take_succ_cons, List.flatMap_cons, List.flatMap_cons, flat_take hf l i, h1, List.take_length_add_append]
theorem flat_drop {α β : Type} {f : α → List β} {sz : Nat} (hf : ∀ x, (f x).length = sz) : ∀ (l : List α) (i : Nat), (l.drop i).flatMap f = (l.flatMap f).drop (i * sz)
  | [], i => by simp
  | x :: l, 0 => by simp
  | x :: l, i + 1 => by
    have h1 : (i + 1) * sz = (f x).length + i * sz := by rw [hf x, Nat.add_mul]; omega
    rw [List.drop_succ_cons, List.flatMap_cons, flat_drop hf l i, h1, List.drop_length_add_append]

set_option maxHeartbeats 2000000 in
theorem Wt.insert_end (v : Value) (l : List Wt) (x : Wt) (vb : Nat) (w w0 : World) (hb0 : Below w0.heap.size w0 w)
    (hown : w.ownsRow w0.heap.size 134 2 v l.length (l.flatMap Wt.cells)) (hlen : l.length ≤ 1048576)
    (hx : w.heap[vb]? = some (.cells #[.int .i64 x.irq, .int .i64 x.prio] 134 (0, 0))) :
    Calls Tryz.prog 179 #[v, .int .i64 l.length, .slice (some ⟨vb, 0, none⟩) 1 1] w fun e w' => ∃ v', e = .returned v' ∧ w'.ownsRow w0.heap.size 134 2 v' (l.length + 1) ((l ++ [x]).flatMap Wt.cells) ∧ Below w0.heap.size w0 w' := by
  obtain ⟨A, n, c, rfl, H, hc, hm⟩ := (Ow.of_own Wt.cells_len hown rfl rfl).rd.form
  have hlen' : n ≤ 1048576 := by rw [H.out]; exact hlen
  rw [show l.length = n from H.out.symm] at hown ⊢
  clear hlen
  have hfl : (l ++ [x]).flatMap Wt.cells = l.flatMap Wt.cells ++ Wt.cells x := by simp
  rw [hfl]
  generalize l.flatMap Wt.cells = xs at *
  clear hfl H
  have hbs := hb0.size
  have hr : ∀ j u, (Wt.cells x)[j]? = some u → w.cell? ⟨vb, j, none⟩ = some u := fun j u hu => by
    simp only [World.cell?, hx]
    simpa [Wt.cells] using hu
  clear hx
  rcases hown.2 with ⟨e, rfl⟩ | ⟨g, cap, cur, e, hg, hh, _⟩
  · injection e with e1 e2 e3
    subst e1; subst e3
    clear e2
    go_enter Tryz.func179, Tryz.ntmps179
    go_wp2_with (at_builtin; (refine Wt.app_one rfl _ _ rfl w0.heap.size _ 0 xs rfl hown x rfl hr (by omega) (by omega) ?_); (rintro v' w' h1 h2))
    go_ret
    exact ⟨_, rfl, h1, hb0.grown h2 hbs (own_ge hown)⟩
  · injection e with e1 e2 e3
    subst e1; subst e3
    clear e2
    by_cases hcn : c = n
    · subst hcn
      go_enter Tryz.func179, Tryz.ntmps179
      go_wp2_with (at_builtin; (refine Wt.app_one rfl _ _ rfl w0.heap.size _ c xs rfl hown x rfl hr (by omega) (by omega) ?_); (rintro v' w' h1 h2))
      go_ret
      exact ⟨_, rfl, h1, hb0.grown h2 hbs (own_ge hown)⟩
    · go_enter Tryz.func179, Tryz.ntmps179
      go_wp2_with (at_builtin; (refine Wt.app_one rfl _ _ rfl w0.heap.size _ n xs rfl hown x rfl hr (by omega) (by omega) ?_); (rintro v' w' h1 h2))
      go_ret
      exact ⟨_, rfl, h1, hb0.grown h2 hbs (own_ge hown)⟩

set_option maxHeartbeats 4000000 in
set_option maxRecDepth 100000 in
theorem Wt.insert_room (g c i n : Nat) (cur : Array Value) (xs : List Value) (l : List Wt) (x : Wt) (vb : Nat) (w w0 : World) (hb0 : Below w0.heap.size w0 w)
    (hg : w0.heap.size ≤ g) (hh : w.heap[g]? = some (.cells cur 134 (0, 0))) (hi : i < n) (hroom : n + 1 ≤ c) (hc : c ≤ maxLen) (hsz : cur.size = c * 2) (hxs : cur.toList.take (n * 2) = xs) (hxl : xs.length = n * 2)
    (hl : xs = l.flatMap Wt.cells)
    (hx : w.heap[vb]? = some (.cells #[.int .i64 x.irq, .int .i64 x.prio] 134 (0, 0))) (hne : vb ≠ g) :
    Calls Tryz.prog 179 #[.slice (some ⟨g, 0, none⟩) n c, .int .i64 i, .slice (some ⟨vb, 0, none⟩) 1 1] w fun e w' => e = .returned (.slice (some ⟨g, 0, none⟩) (n + 1) c) ∧ w'.ownsRow w0.heap.size 134 2 (.slice (some ⟨g, 0, none⟩) (n + 1) c) (n + 1) (xs.take (i * 2) ++ Wt.cells x ++ xs.drop (i * 2)) ∧ Below w0.heap.size w0 w' := by
  have hbs := hb0.size
  obtain ⟨i0, hi0, hz0, hz1, hz2⟩ := info_parts Wt.info
  have ksz : ∀ w, (Go.sizeOf 134).run Tryz.prog w = .ok 2 w := fun w => by simp [sizeOf, typeInfo, hi0, hz1]
  have h1v : ∀ v ∈ xs, v.oneCell' = true := by
    subst hl
    intro v hv
    obtain ⟨y, _, hy⟩ := List.mem_flatMap.1 hv
    exact Wt.one y v hy
  have hov : ∀ lb cb, (callFunc 189 #[.slice (some ⟨vb, 0, none⟩) 1 1, .slice (some ⟨g, (i + 1) * 2, none⟩) lb cb]).run Tryz.prog w = .ok (.value (.bool false)) w := fun lb cb => by
    rw [run_callFunc_extern Tryz.func189 (by kernel_rfl) (by kernel_rfl) (by kernel_rfl) (e := Extern.SlicesOverlaps.overlaps #[31, 31] #[4]) (by kernel_rfl),
      Lib.run_overlaps_apart w 31 4 134 Tryz.underlying31 2 ksz ⟨vb, 0, none⟩ ⟨g, (i + 1) * 2, none⟩ 1 1 lb cb hne 134 134 2 (c * 2) (by simp [World.shape?, hx]) (by simp [World.shape?, hh, hsz]) (by omega) (by simp [World.frozen?, hx]) (by simp [World.frozen?, hx])]
    rfl
  have hw1 : IntKind.i64.wrap ((i : Int) + 1) = (i : Int) + 1 := by rw [IntKind.wrap_i64]; unfold maxLen at hc; omega
  have hi1 : ((i : Int) + 1).toNat = i + 1 := by omega
  have hq1 : ¬ ((i : Int) = (n : Int)) := by omega
  have hq2 : ¬ (c = i) := by omega
  have hq3 : ¬ (c = i + 1) := by omega
  have hsrc : ∀ (W : World), W.heap[g]? = some (.cells cur 134 (0, 0)) → ∀ j v, (xs.drop (i * 2))[j]? = some v → W.cell? ((⟨g, i * 2, none⟩ : Addr).add j) = some v := fun W hW j v hj => by
    rw [List.getElem?_drop, ← hxs, List.getElem?_take] at hj
    split at hj
    · rw [Go.WideShapes.add_plain]
      simp only [World.cell?, hW]
      simpa using hj
    · cases hj
  have hcl : (xs.drop (i * 2)).length = (n - i) * 2 := by rw [List.length_drop, hxl]; omega
  have hgE : w.drew.heap[g]? = some (.cells cur.toList.toArray 134 (0, 0)) := by show w.heap[g]? = _; simpa using hh
  have hcz : cur.toList.length = c * 2 := by simpa using hsz
  have hxf : xs.take (i * 2) ++ Wt.cells x ++ xs.drop (i * 2) = (splice (splice cur.toList ((i + 1) * 2) (xs.drop (i * 2))) (i * 2) (Wt.cells x)).take ((n + 1) * 2) := by
    have h := splice_room cur.toList xs (Wt.cells x) (i * 2) (by omega) (by rw [hxl]; exact hxs) (by rw [hxl, hcz, Wt.cells_len]; omega)
    rw [Wt.cells_len, hxl, show n * 2 + 2 = (n + 1) * 2 by omega, show i * 2 + 2 = (i + 1) * 2 by omega] at h
    exact h.symm
  have hsl : (splice cur.toList ((i + 1) * 2) (xs.drop (i * 2))).length = c * 2 := by rw [length_splice _ _ _ (by rw [hcl, hcz]; omega), hcz]
  rw [hxf]
  obtain ⟨Y, hY⟩ : ∃ Y, Y = splice cur.toList ((i + 1) * 2) (xs.drop (i * 2)) := ⟨_, rfl⟩
  obtain ⟨X2, hX2⟩ : ∃ X2, X2 = xs.drop (i * 2) := ⟨_, rfl⟩
  rw [← hY] at hsl ⊢
  rw [← hX2] at hY hsrc hcl
  have h1x : ∀ v ∈ X2, v.oneCell' = true := fun v hv => h1v v (List.mem_of_mem_drop (by rw [hX2] at hv; exact hv))
  unfold maxLen at hc
  clear hX2 hxf hl h1v hxs hxl
  have HY := Lib.hid hY
  clear hY
  go_enter Tryz.func179, Tryz.ntmps179
  go_wp2_with (simp only [hov])
  refine wp_region_any (by kernel_rfl) ?_
  refine wpAny_take (i := 0) (v := .slice (some ⟨g, 0, none⟩) (n + 1) c) rfl (by kernel_rfl) (by kernel_rfl) (by kernel_rfl) (fun _ _ _ h => h) (Or.inl ⟨by rfl, by intro w; go_simp⟩) ?_
  refine wpAny_take (i := 1) (v := .int .i64 i) rfl (by kernel_rfl) (by kernel_rfl) (by kernel_rfl) (fun _ _ _ h => h) (Or.inl ⟨by rfl, by intro w; go_simp⟩) ?_
  refine wpAny_take (i := 2) (v := .int .i64 1) rfl (by kernel_rfl) (by kernel_rfl) (by kernel_rfl) (fun _ _ _ h => h) (Or.inl ⟨by rfl, by intro w; go_simp⟩) ?_
  refine wpAny_take (i := 3) (v := .int .i64 ((i : Int) + 1)) rfl (by kernel_rfl) (by kernel_rfl) (by kernel_rfl) (fun _ _ _ h => h) (Or.inl ⟨by rfl, by intro w; go_simp⟩) ?_
  refine wpAny_take (i := 4) (v := .slice (some ⟨g, (i + 1) * 2, none⟩) (n - i) (c - (i + 1))) rfl (by kernel_rfl) (by kernel_rfl) (by kernel_rfl) (fun _ _ _ h => h) (Or.inl ⟨by rfl, by intro w; go_simp; (intros; exfalso; omega)⟩) ?_
  refine wpAny_take (i := 5) (v := .slice (some ⟨g, 0, none⟩) (n + 1) c) rfl (by kernel_rfl) (by kernel_rfl) (by kernel_rfl) (fun _ _ _ h => h) (Or.inl ⟨by rfl, by intro w; go_simp⟩) ?_
  refine wpAny_take (i := 6) (v := .int .i64 i) rfl (by kernel_rfl) (by kernel_rfl) (by kernel_rfl) (fun _ _ _ h => h) (Or.inl ⟨by rfl, by intro w; go_simp⟩) ?_
  refine wpAny_take (i := 7) (v := .slice (some ⟨g, i * 2, none⟩) (n + 1 - i) (c - i)) rfl (by kernel_rfl) (by kernel_rfl) (by kernel_rfl) (fun _ _ _ h => h) (Or.inl ⟨by rfl, by intro w; go_simp; (intros; exfalso; omega)⟩) ?_
  generalize hwd : (World.mk w.heap w.tape (w.drawn + 1) w.os w.output) = wd
  have hgD : wd.heap[g]? = some (.cells cur.toList.toArray 134 (0, 0)) := by rw [← hwd]; exact hgE
  have hxD : wd.heap[vb]? = some (.cells #[.int .i64 x.irq, .int .i64 x.prio] 134 (0, 0)) := by rw [← hwd]; exact hx
  have hbD : Below w0.heap.size w0 wd := by rw [← hwd]; exact hb0.drew
  have hsD := hsrc wd (by rw [← hwd]; exact hh)
  clear hov hsrc hwd hgE hx hb0 hh
  refine wpAny_ready (rs := [8]) (by kernel_rfl) (by decide) ?_
  refine AllReady.cons rfl (fun K hK => ?_) AllReady.nil
  refine step_copy_sz rfl _ _ _ _ rfl 134 i0 2 Tryz.underlying31 hi0 hz1 g ((i + 1) * 2) (n - i) (c - (i + 1)) ⟨g, i * 2, none⟩ (n + 1 - i) (c - i) (by kernel_rfl) (by kernel_rfl) cur.toList 134 hgD X2 (n - i) (by simp only [Nat.min_def]; split <;> omega) hcl hsD (by rw [hcl, hcz]; omega) h1x w0.heap.size w0 hbD hg ?_
  intro w1 hg1 hb1 ho1
  refine hK _ _ ?_
  refine ⟨by kernel_rfl, ?_⟩
  have hx1 : ∀ j u, (Wt.cells x)[j]? = some u → w1.cell? ((⟨vb, 0, none⟩ : Addr).add j) = some u := fun j u hu => by
    rw [Go.WideShapes.add_plain, Nat.zero_add]
    simp only [World.cell?, ho1 vb hne, hxD]
    simpa [Wt.cells] using hu
  have hg2 : w1.heap[g]? = some (.cells Y.toArray 134 (0, 0)) := by rw [HY.out]; exact hg1.out
  have h2x : ∀ v ∈ Wt.cells x, v.oneCell' = true := fun v hv => Wt.one x v hv
  clear hg1
  go_wp2_with ((refine wpList_copy_sz rfl _ _ _ _ rfl 134 i0 2 Tryz.underlying31 hi0 hz1 g (i * 2) (n + 1 - i) (c - i) ⟨vb, 0, none⟩ 1 1 (by kernel_rfl) (by kernel_rfl) Y 134 hg2 (Wt.cells x) 1 (by simp only [Nat.min_def]; split <;> omega) (by rw [Wt.cells_len]) hx1 (by rw [Wt.cells_len, hsl]; omega) h2x w0.heap.size w0 hb1 hg ?_); (intro w2 hg3 hb2 ho2))
  go_ret
  have hlen : (splice Y (i * 2) (Wt.cells x)).length = c * 2 := by rw [length_splice _ _ _ (by rw [Wt.cells_len, hsl]; omega), hsl]
  exact ⟨rfl, ⟨by rw [List.length_take, hlen]; omega, .inr ⟨g, c, _, rfl, hg, hg3.out, hroom, by unfold maxLen; omega, by simpa using hlen, by simp⟩⟩, hb2⟩

set_option maxHeartbeats 4000000 in
set_option maxRecDepth 100000 in
theorem Wt.insert_grow (g c i n : Nat) (cur : Array Value) (xs : List Value) (l : List Wt) (x : Wt) (vb : Nat) (w w0 : World) (hb0 : Below w0.heap.size w0 w)
    (hh : w.heap[g]? = some (.cells cur 134 (0, 0))) (hi : i < n) (hnc : n ≤ c) (hroom : c < n + 1) (hn : n ≤ 1048576) (hxs : cur.toList.take (n * 2) = xs) (hxl : xs.length = n * 2)
    (hl : xs = l.flatMap Wt.cells)
    (hx : w.heap[vb]? = some (.cells #[.int .i64 x.irq, .int .i64 x.prio] 134 (0, 0))) :
    Calls Tryz.prog 179 #[.slice (some ⟨g, 0, none⟩) n c, .int .i64 i, .slice (some ⟨vb, 0, none⟩) 1 1] w fun e w' => ∃ v', e = .returned v' ∧ w'.ownsRow w0.heap.size 134 2 v' (n + 1) (xs.take (i * 2) ++ Wt.cells x ++ xs.drop (i * 2)) ∧ Below w0.heap.size w0 w' := by
  have hbs := hb0.size
  obtain ⟨i0, hi0, hz0, hz1, hz2⟩ := info_parts Wt.info
  have h1v : ∀ v ∈ xs, v.oneCell' = true := by
    subst hl
    intro v hv
    obtain ⟨y, _, hy⟩ := List.mem_flatMap.1 hv
    exact Wt.one y v hy
  have hgw : g < w.heap.size := (Array.getElem?_eq_some_iff.1 hh).1
  have hvw : vb < w.heap.size := (Array.getElem?_eq_some_iff.1 hx).1
  have hcell : ∀ (W : World), W.heap[g]? = w.heap[g]? → ∀ o j v, (xs.drop o)[j]? = some v → W.cell? ((⟨g, o, none⟩ : Addr).add j) = some v := fun W hW o j v hj => by
    rw [List.getElem?_drop, ← hxs, List.getElem?_take] at hj
    split at hj
    · rw [Go.WideShapes.add_plain]
      simp only [World.cell?, hW, hh]
      simpa using hj
    · cases hj
  obtain ⟨w1, G, ROW, hrz, hN, hO, hb1, hG1, hG2, hRz, hRt⟩ : ∃ (w1 : World) (G : Nat) (ROW : List Value), (∀ ty, (Builtin.append_ #[31, 3] ty #[.slice (some ⟨g, 0, none⟩) i c, .int .i64 ((n : Int) + 1 - (i : Int))]).run Tryz.prog w = .ok (.slice (some ⟨w.heap.size, 0, none⟩) (n + 1) G) w1) ∧
      w1.heap[w.heap.size]? = some (.cells ROW.toArray 134 (0, 0)) ∧ (∀ q, q < w.heap.size → w1.heap[q]? = w.heap[q]?) ∧ Below w0.heap.size w0 w1 ∧ n + 1 ≤ G ∧ G ≤ maxLen ∧ ROW.length = G * 2 ∧ ROW.take (i * 2) = xs.take (i * 2) := by
    have hold : (Builtin.firstCells i0.size i (.slice (some ⟨g, 0, none⟩) i c)).run Tryz.prog w.drew = .ok (xs.take (i * 2)).toArray w.drew := by
      rw [hz1]
      exact run_firstCells_some w.drew 2 i ⟨g, 0, none⟩ i c (xs.take (i * 2)) (by rw [List.length_take, hxl]; omega) (fun j v hj => by
        rw [List.getElem?_take] at hj
        split at hj
        · exact hcell w.drew rfl 0 j v (by simpa using hj)
        · cases hj)
    have hkk : (n : Int) + 1 - (i : Int) = ((n + 1 - i : Nat) : Int) := by omega
    have h := fun ty => Lib.run_append_grow_zeros w 31 3 ty 134 i0 _ .i64 .i64 Tryz.underlying31 Tryz.underlying3 hi0 hz0 (some ⟨g, 0, none⟩) i c (xs.take (i * 2)) hold (n + 1 - i) (by omega) (by omega) (by omega) (by omega) (by rw [hz2]; omega) (by rw [hz2, show i + (n + 1 - i) = n + 1 by omega]; exact growslice_fits hroom (by omega))
    rw [show i + (n + 1 - i) = n + 1 by omega] at h
    refine ⟨_, _, ((xs.take (i * 2)).toArray ++ Builtin.zeroCells (Value.agg #[.int .i64 0, .int .i64 0]).cells (n + 1 - i) ++ Builtin.zeroCells (Value.agg #[.int .i64 0, .int .i64 0]).cells (grownCap w (n + 1) c 134 - (n + 1))).toList, fun ty => (by rw [hkk]; exact h ty), ?_, fun q hq => ?_, hb0.drew.alloc hbs _, grownCap_ge w _ _ _, grownCap_le_maxLen w (n + 1) c 134 (by unfold maxLen; omega), ?_, ?_⟩
    · rw [Array.toArray_toList]; exact heap_alloc_new w.drew _
    · exact heap_alloc_old w.drew _ hq
    · have := grownCap_ge w (n + 1) c 134
      simp [Builtin.zeroCells, Value.cells, hxl]
      omega
    · have hlx : (xs.take (i * 2)).length = i * 2 := by rw [List.length_take, hxl]; omega
      simp only [Array.toList_append, List.append_assoc]
      rw [List.take_append_of_le_length (by omega), List.take_of_length_le (by omega)]
  have hw1 : IntKind.i64.wrap ((i : Int) + 1) = (i : Int) + 1 := by rw [IntKind.wrap_i64]; omega
  have hi1 : ((i : Int) + 1).toNat = i + 1 := by omega
  have hq1 : ¬ ((i : Int) = (n : Int)) := by omega
  have hq2 : ¬ (c = i) := by omega
  have hq3 : ¬ (G = i + 1) := by omega
  have hq4 : ¬ (G = i) := by omega
  have hz3 : (c : Int) < (n : Int) + 1 := by omega
  have hgN : w0.heap.size ≤ w.heap.size := hbs
  have hx1 : ∀ j u, (Wt.cells x)[j]? = some u → w1.cell? ((⟨vb, 0, none⟩ : Addr).add j) = some u := fun j u hu => by
    rw [Go.WideShapes.add_plain, Nat.zero_add]
    simp only [World.cell?, hO vb hvw, hx]
    simpa [Wt.cells] using hu
  have h2x : ∀ v ∈ Wt.cells x, v.oneCell' = true := fun v hv => Wt.one x v hv
  have hcl : (xs.drop (i * 2)).length = (n - i) * 2 := by rw [List.length_drop, hxl]; omega
  have hYl : (splice ROW (i * 2) (Wt.cells x)).length = G * 2 := by rw [length_splice _ _ _ (by rw [Wt.cells_len, hRz]; omega), hRz]
  have hxf : xs.take (i * 2) ++ Wt.cells x ++ xs.drop (i * 2) = (splice (splice ROW (i * 2) (Wt.cells x)) ((i + 1) * 2) (xs.drop (i * 2))).take ((n + 1) * 2) := by
    have h := splice_grow ROW xs (Wt.cells x) (i * 2) (by omega) hRt
    rw [Wt.cells_len, hxl, show n * 2 + 2 = (n + 1) * 2 by omega, show i * 2 + 2 = (i + 1) * 2 by omega] at h
    exact h.symm
  have hsD : ∀ (W : World), W.heap[g]? = w.heap[g]? → ∀ j v, (xs.drop (i * 2))[j]? = some v → W.cell? ((⟨g, i * 2, none⟩ : Addr).add j) = some v := fun W hW j v hj => hcell W hW (i * 2) j v hj
  have h1x : ∀ v ∈ xs.drop (i * 2), v.oneCell' = true := fun v hv => h1v v (List.mem_of_mem_drop hv)
  rw [hxf]
  obtain ⟨Y, hY⟩ : ∃ Y, Y = splice ROW (i * 2) (Wt.cells x) := ⟨_, rfl⟩
  rw [← hY] at hYl ⊢
  generalize xs.drop (i * 2) = X2 at *
  clear hxf hl h1v hxs hxl hx hRt hcell
  have HY := Lib.hid hY
  clear hY
  have hN' : g ≠ w.heap.size := by omega
  go_enter Tryz.func179, Tryz.ntmps179
  go_wp2_with (first
    | (at_builtin; refine Lib.wpList_append_run _ rfl _ _ _ _ rfl _ _ rfl rfl _ _ (hrz _) ?_)
    | ((refine wpList_copy_sz rfl _ _ _ _ rfl 134 i0 2 Tryz.underlying31 hi0 hz1 w.heap.size (i * 2) (n + 1 - i) (G - i) ⟨vb, 0, none⟩ 1 1 (by kernel_rfl) (by kernel_rfl) ROW 134 hN (Wt.cells x) 1 (by simp only [Nat.min_def]; split <;> omega) (by rw [Wt.cells_len]) hx1 (by rw [Wt.cells_len, hRz]; omega) h2x w0.heap.size w0 hb1 hgN ?_); (intro w2 hg2 hb2 ho2)))
  refine wp_region_any (by kernel_rfl) ?_
  refine wpAny_take (i := 0) (v := .slice (some ⟨w.heap.size, 0, none⟩) (n + 1) G) rfl (by kernel_rfl) (by kernel_rfl) (by kernel_rfl) (fun _ _ _ h => h) (Or.inl ⟨by rfl, by intro w; go_simp⟩) ?_
  refine wpAny_take (i := 1) (v := .int .i64 i) rfl (by kernel_rfl) (by kernel_rfl) (by kernel_rfl) (fun _ _ _ h => h) (Or.inl ⟨by rfl, by intro w; go_simp⟩) ?_
  refine wpAny_take (i := 2) (v := .int .i64 1) rfl (by kernel_rfl) (by kernel_rfl) (by kernel_rfl) (fun _ _ _ h => h) (Or.inl ⟨by rfl, by intro w; go_simp⟩) ?_
  refine wpAny_take (i := 3) (v := .int .i64 ((i : Int) + 1)) rfl (by kernel_rfl) (by kernel_rfl) (by kernel_rfl) (fun _ _ _ h => h) (Or.inl ⟨by rfl, by intro w; go_simp⟩) ?_
  refine wpAny_take (i := 4) (v := .slice (some ⟨w.heap.size, (i + 1) * 2, none⟩) (n - i) (G - (i + 1))) rfl (by kernel_rfl) (by kernel_rfl) (by kernel_rfl) (fun _ _ _ h => h) (Or.inl ⟨by rfl, by intro w; go_simp; (intros; exfalso; omega)⟩) ?_
  refine wpAny_take (i := 5) (v := .slice (some ⟨g, 0, none⟩) n c) rfl (by kernel_rfl) (by kernel_rfl) (by kernel_rfl) (fun _ _ _ h => h) (Or.inl ⟨by rfl, by intro w; go_simp⟩) ?_
  refine wpAny_take (i := 6) (v := .int .i64 i) rfl (by kernel_rfl) (by kernel_rfl) (by kernel_rfl) (fun _ _ _ h => h) (Or.inl ⟨by rfl, by intro w; go_simp⟩) ?_
  refine wpAny_take (i := 7) (v := .slice (some ⟨g, i * 2, none⟩) (n - i) (c - i)) rfl (by kernel_rfl) (by kernel_rfl) (by kernel_rfl) (fun _ _ _ h => h) (Or.inl ⟨by rfl, by intro w; go_simp; (intros; exfalso; omega)⟩) ?_
  generalize hwd : (World.mk w2.heap w2.tape (w2.drawn + 1) w2.os w2.output) = wd
  have hgD : wd.heap[w.heap.size]? = some (.cells Y.toArray 134 (0, 0)) := by rw [← hwd, HY.out]; exact hg2.out
  have hbD : Below w0.heap.size w0 wd := by rw [← hwd]; exact hb2.drew
  have hsE := hsD wd (by rw [← hwd]; exact (ho2 g hN').trans (hO g hgw))
  clear hwd hg2 hb2 ho2 hsD
  refine wpAny_ready (rs := [8]) (by kernel_rfl) (by decide) ?_
  refine AllReady.cons rfl (fun K hK => ?_) AllReady.nil
  refine step_copy_sz rfl _ _ _ _ rfl 134 i0 2 Tryz.underlying31 hi0 hz1 w.heap.size ((i + 1) * 2) (n - i) (G - (i + 1)) ⟨g, i * 2, none⟩ (n - i) (c - i) (by kernel_rfl) (by kernel_rfl) Y 134 hgD X2 (n - i) (by simp) hcl hsE (by rw [hcl, hYl]; omega) h1x w0.heap.size w0 hbD hgN ?_
  intro w3 hg3 hb3 ho3
  refine hK _ _ ?_
  refine ⟨by kernel_rfl, ?_⟩
  go_wp2_with fail
  go_ret
  have hlen : (splice Y ((i + 1) * 2) X2).length = G * 2 := by rw [length_splice _ _ _ (by rw [hcl, hYl]; omega), hYl]
  exact ⟨_, rfl, ⟨by rw [List.length_take, hlen]; omega, .inr ⟨w.heap.size, G, _, rfl, hgN, hg3.out, hG1, hG2, by simpa using hlen, by simp⟩⟩, hb3⟩

theorem Wt.insert_any (v : Value) (l : List Wt) (i : Nat) (x : Wt) (vb : Nat) (w w0 : World) (hb0 : Below w0.heap.size w0 w)
    (hown : w.ownsRow w0.heap.size 134 2 v l.length (l.flatMap Wt.cells)) (hi : i ≤ l.length) (hlen : l.length ≤ 1048576)
    (hx : w.heap[vb]? = some (.cells #[.int .i64 x.irq, .int .i64 x.prio] 134 (0, 0))) (hne : v.ownBlock ≠ some vb) :
    Calls Tryz.prog 179 #[v, .int .i64 i, .slice (some ⟨vb, 0, none⟩) 1 1] w fun e w' => ∃ v', e = .returned v' ∧ w'.ownsRow w0.heap.size 134 2 v' (l.length + 1) ((l.take i ++ x :: l.drop i).flatMap Wt.cells) ∧ Below w0.heap.size w0 w' := by
  by_cases hil : i = l.length
  · subst hil
    rw [List.take_length, List.drop_length]
    exact Wt.insert_end v l x vb w w0 hb0 hown hlen hx
  · have hfl : (l.take i ++ x :: l.drop i).flatMap Wt.cells = (l.flatMap Wt.cells).take (i * 2) ++ Wt.cells x ++ (l.flatMap Wt.cells).drop (i * 2) := by
      rw [List.flatMap_append, List.flatMap_cons, flat_take Wt.cells_len, flat_drop Wt.cells_len, List.append_assoc]
    rw [hfl]
    rcases hown.2 with ⟨_, h0⟩ | ⟨g, c, cur, rfl, hg, hh, hnc, hm, hsz, ht⟩
    · omega
    · have hng : vb ≠ g := fun h => hne (by simp [Value.ownBlock, h])
      by_cases hr : l.length + 1 ≤ c
      · exact (Wt.insert_room g c i l.length cur _ l x vb w w0 hb0 hg hh (by omega) hr hm hsz ht hown.1 rfl hx hng).mono fun e w' h => ⟨_, h.1, h.2⟩
      · exact Wt.insert_grow g c i l.length cur _ l x vb w w0 hb0 hh (by omega) hnc (by omega) hlen ht hown.1 rfl hx

end Go.Proofs.YtengaccnncnipaaGreat
