/- Lemmas and walks that the last text of this claim leans on, part 4. No condition. -/
import Derived.Test.YtfpaafmckeeecaaGreatMcQsC
/- The reference's draw of a queue: it returns something, in new memory. Condition: at most 100000 reads before. -/
namespace Go.Proofs.YtfpaafmckeeecaaGreat
open Go.RowKit Go.ChangeShapes Go.WideShapes Go.Deep

/-- the state of a draw of a queue: the code, the reader at g, the result's box, the queue's box at gQ, its rows -/
structure DQ (w : World) (g : Nat) (cv : Value) (l : List UInt8) (lo hi : Nat) (k : Nat) (W : World) (gQ : Nat) (vs vw : Value) (ls : List Sl) (lw : List Wt) : Prop where
  h : Rd By.cells 1 W lo hi cv l
  c : Cur W g cv k
  G : w.grownBy W (some g)
  r : Box W w.heap.size 27 [.slice none 0 0, .slice none 0 0]
  q : Box W gQ 27 [vs, vw]
  os : Ow Sl.cells 3 76 W w.heap.size W.heap.size vs ls
  ow : Ow Wt.cells 2 67 W w.heap.size W.heap.size vw lw
/-- where the blocks lie -/
structure DQF (w : World) (g lo hi gQ : Nat) : Prop where
  hg : g < lo ∨ hi ≤ g
  hh : hi ≤ w.heap.size
  hw : g < w.heap.size
  hq : w.heap.size < gQ
section
variable {w W W' : World} {g lo hi k k' gQ : Nat} {cv vs vw : Value} {l : List UInt8} {ls : List Sl} {lw : List Wt}
theorem DQ.size (d : DQ w g cv l lo hi k W gQ vs vw ls lw) : w.heap.size ≤ W.heap.size := d.G.size
theorem DQ.hle (f : DQF w g lo hi gQ) (d : DQ w g cv l lo hi k W gQ vs vw ls lw) : hi ≤ W.heap.size := Nat.le_trans f.hh d.size
/-- only the reader's block has turned -/
theorem DQ.pick (d : DQ w g cv l lo hi k W gQ vs vw ls lw) (f : DQF w g lo hi gQ) (gg : W.grownBy W' (some g)) (c : Cur W' g cv k') : DQ w g cv l lo hi k' W' gQ vs vw ls lw := by
  obtain ⟨f1, f2, f3, f4⟩ := f
  exact ⟨d.h.grown gg (Nat.le_trans f2 d.size) (fun q e => by injection e with e; omega), c, grown_trans d.G gg, d.r.keep (gg.block _ d.r.lt (fun e => by injection e with e; omega)), d.q.keep (gg.block _ d.q.lt (fun e => by injection e with e; omega)),
   (d.os.apart gg (fun q e => by injection e with e; omega)).mono (Nat.le_refl _) gg.size, (d.ow.apart gg (fun q e => by injection e with e; omega)).mono (Nat.le_refl _) gg.size⟩
theorem DQ.below (d : DQ w g cv l lo hi k W gQ vs vw ls lw) (f : DQF w g lo hi gQ) (b : Below W.heap.size W W') : DQ w g cv l lo hi k W' gQ vs vw ls lw :=
  ⟨d.h.below b (Nat.le_trans f.hh d.size), d.c.grown0 (grown_below b), grown_trans d.G (grown_weaken (grown_below b)), d.r.below b d.r.lt, d.q.below b d.q.lt, (d.os.below b (Nat.le_refl _)).mono (Nat.le_refl _) b.size, (d.ow.below b (Nat.le_refl _)).mono (Nat.le_refl _) b.size⟩
/-- a box of queues, but the result's, is written -/
theorem DQ.wr {gT : Nat} {cs vv : List Value} {off : Nat} (d : DQ w g cv l lo hi k W gQ vs vw ls lw) (f : DQF w g lo hi gQ) (bT : Box W gT 27 cs) (hwT : w.heap.size < gT) {vs' vw' : Value} {ls' : List Sl} {lw' : List Wt} (hq : Box (setL W gT off vv) gQ 27 [vs', vw']) (o1 : Ow Sl.cells 3 76 W w.heap.size W.heap.size vs' ls') (o2 : Ow Wt.cells 2 67 W w.heap.size W.heap.size vw' lw') : DQ w g cv l lo hi k (setL W gT off vv) gQ vs' vw' ls' lw' := by
  obtain ⟨f1, f2, f3, f4⟩ := f
  have hs : (setL W gT off vv).heap.size = W.heap.size := setL_size _ _ _ _
  have gS := setL_grown vv W gT off
  refine ⟨d.h.grown gS (Nat.le_trans f2 d.size) (fun q e => by injection e with e; omega), d.c.other gS (by omega), grown_new d.G gS (fun q e => by injection e with e; omega), d.r.other (by omega) off vv, hq, ?_, ?_⟩
  · rw [hs]; exact o1.box bT (by decide) off vv
  · rw [hs]; exact o2.box bT (by decide) off vv
/-- the queue's box is written anew -/
theorem DQ.store (d : DQ w g cv l lo hi k W gQ vs vw ls lw) (f : DQF w g lo hi gQ) {vs' vw' : Value} {ls' : List Sl} {lw' : List Wt} (o1 : Ow Sl.cells 3 76 W w.heap.size W.heap.size vs' ls') (o2 : Ow Wt.cells 2 67 W w.heap.size W.heap.size vw' lw') : DQ w g cv l lo hi k (setL W gQ 0 [vs', vw']) gQ vs' vw' ls' lw' :=
  d.wr f d.q f.hq (d.q.setAll [vs', vw'] rfl) o1 o2
theorem DQ.store1 (d : DQ w g cv l lo hi k W gQ vs vw ls lw) (f : DQF w g lo hi gQ) {vs' : Value} {ls' : List Sl} (o1 : Ow Sl.cells 3 76 W w.heap.size W.heap.size vs' ls') : DQ w g cv l lo hi k (setL W gQ 0 [vs']) gQ vs' vw ls' lw :=
  d.wr f d.q f.hq (d.q.set1 (j := 0) vs' (by simp)) o1 d.ow
/-- another box of queues is written -/
theorem DQ.other {gT : Nat} {cs : List Value} (d : DQ w g cv l lo hi k W gQ vs vw ls lw) (f : DQF w g lo hi gQ) (bT : Box W gT 27 cs) (hne : gQ ≠ gT) (hwT : w.heap.size < gT) (off : Nat) (vv : List Value) : DQ w g cv l lo hi k (setL W gT off vv) gQ vs vw ls lw :=
  d.wr f bT hwT (d.q.other hne off vv) d.os d.ow
theorem DQ.boxed (d : DQ w g cv l lo hi k W gQ vs vw ls lw) (f : DQF w g lo hi gQ) : DQ w g cv l lo hi k (W.alloc (.cells #[.slice none 0 0, .slice none 0 0] 27)) gQ vs vw ls lw ∧ Box (W.alloc (.cells #[.slice none 0 0, .slice none 0 0] 27)) W.heap.size 27 [.slice none 0 0, .slice none 0 0] ∧ gQ < W.heap.size ∧ Below W.heap.size W (W.alloc (.cells #[.slice none 0 0, .slice none 0 0] 27)) := by
  have b := (Below.refl W.heap.size W).alloc (Nat.le_refl _) (.cells #[.slice none 0 0, .slice none 0 0] 27)
  exact ⟨d.below f b, Box.new W #[.slice none 0 0, .slice none 0 0] 27 rfl, d.q.lt, b⟩
/-- the waiting row has grown: the boxes are as they were -/
theorem DQ.app_box {row : Option Nat} (d : DQ w g cv l lo hi k W gQ vs vw ls lw) (gg : W.grownBy W' row) (hr : ∀ q, row = some q → w.heap.size ≤ q ∧ q < W.heap.size ∧ ∃ cur, W.heap[q]? = some (.cells cur 67 (0, 0))) : Box W' gQ 27 [vs, vw] :=
  d.q.other_type gg (fun q e => (hr q e).2.2) (by decide)
theorem DQ.app {row : Option Nat} (d : DQ w g cv l lo hi k W gQ vs vw ls lw) (f : DQF w g lo hi gQ) (gg : W.grownBy W' row) (hr : ∀ q, row = some q → w.heap.size ≤ q ∧ q < W.heap.size ∧ ∃ cur, W.heap[q]? = some (.cells cur 67 (0, 0))) {v8 : Value} {lw' : List Wt} (o8 : Ow Wt.cells 2 67 W' w.heap.size W'.heap.size v8 lw') : DQ w g cv l lo hi k (setL W' gQ 1 [v8]) gQ vs v8 ls lw' := by
  have bq := d.app_box gg hr
  have br : Box W' w.heap.size 27 [.slice none 0 0, .slice none 0 0] := d.r.other_type gg (fun q e => (hr q e).2.2) (by decide)
  have os : Ow Sl.cells 3 76 W' w.heap.size W'.heap.size vs ls := (d.os.other_type gg (fun q e => (hr q e).2.2) (by decide)).mono (Nat.le_refl _) gg.size
  obtain ⟨f1, f2, f3, f4⟩ := f
  have hs : (setL W' gQ 1 [v8]).heap.size = W'.heap.size := setL_size _ _ _ _
  have gS := setL_grown [v8] W' gQ 1
  have hG := grown_new d.G gg (fun q e => (hr q e).1)
  refine ⟨(d.h.grown gg (Nat.le_trans f2 d.size) (fun q e => .inr (by have := (hr q e).1; omega))).grown gS (by have := gg.size; have := d.size; omega) (fun q e => by injection e with e; omega), (d.c.row gg (fun q e => by have := (hr q e).1; omega)).other gS (by omega), grown_new hG gS (fun q e => by injection e with e; omega), br.other (by omega) 1 _, bq.set1 (j := 1) v8 (by simp), ?_, ?_⟩
  · rw [hs]; exact os.box bq (by decide) 1 _
  · rw [hs]; exact o8.box bq (by decide) 1 _
/-- one slot is written -/
theorem DQ.slot {b off n c i : Nat} {t t' : Sl} (d : DQ w g cv l lo hi k W gQ (.slice (some ⟨b, off, none⟩) n c) vw ls lw) (f : DQF w g lo hi gQ) (ht : ls[i]? = some t) (hi' : i < n) (hb : w.heap.size ≤ b) : DQ w g cv l lo hi k (setL W b (off + i * 3) t'.cells) gQ (.slice (some ⟨b, off, none⟩) n c) vw (ls.set i t') lw := by
  obtain ⟨f1, f2, f3, f4⟩ := f
  have hs : (setL W b (off + i * 3) t'.cells).heap.size = W.heap.size := setL_size _ _ _ _
  have gS := setL_grown t'.cells W b (off + i * 3)
  have hu : Upd 76 3 W (setL W b (off + i * 3 + 0) t'.cells) b (off + i * 3) t.cells t'.cells := Upd.of_setL 0 (ys := t'.cells) rfl (by simp [Sl.cells]) (by simp [Sl.cells])
  refine ⟨d.h.grown gS (Nat.le_trans f2 d.size) (fun q e => by injection e with e; omega), d.c.other gS (by omega), grown_new d.G gS (fun q e => by injection e with e; omega), d.r.row d.os (by omega) (by decide) _ _, d.q.row d.os (by omega) (by decide) _ _, ?_, ?_⟩
  · rw [hs]; exact d.os.upd Sl.cells_len (by omega) ht hu
  · rw [hs]; exact d.ow.row_type d.os (by omega) (by decide) _ _
end
theorem inB_mk {x a b : Int} (h : a ≤ x ∧ x ≤ b) : inB x a b = true := by rw [inB_iff]; omega
theorem Qu.good_fit {ls : List Sl} {lw : List Wt} (h : Qu.good ls lw = true) : Sl.dis ls ∧ ls.length = 4 ∧ lw.length ≤ 8 := ⟨Sl.dis_good (Qu.parts_get (Qu.good_parts h).1).1, Qu.good_len2 h⟩
theorem Qu.good_tkL {ls : List Sl} {lw : List Wt} (h : Qu.good ls lw = true) (m : Int) : Qu.good (Sl.tkL ls m) lw = true := by
  unfold Sl.tkL; split
  · rename_i hk; exact Qu.tk_good h hk
  · exact h
theorem Qu.good_ei {ls : List Sl} {lw : List Wt} (h : Qu.good ls lw = true) {i : Int} (hk : Sl.endOk ls i = true) : Qu.good (Qu.eiS ls lw i) (Qu.eiW ls lw i) = true := by
  rw [(Qu.ei_yes hk lw).1, (Qu.ei_yes hk lw).2]; exact Qu.eiP_good (Qu.good_parts h).1 hk
theorem Qu.good_of {ls : List Sl} {lw : List Wt} (h : Qu.good ls lw = true) {i p : Int} (hi : 0 ≤ i ∧ i ≤ 7) (hp : 0 ≤ p ∧ p ≤ 15) : Qu.good (Qu.ofP ls lw i p).1 (Qu.ofP ls lw i p).2 = true :=
  Qu.ofP_good (by simp only [Qu.ofOk, h, Bool.true_and, Bool.and_eq_true]; exact ⟨by rw [inB_iff]; omega, by rw [inB_iff]; omega⟩)
theorem Qu.good0 : Qu.good [⟨0, 0, 0⟩, ⟨0, 0, 0⟩, ⟨0, 0, 0⟩, ⟨0, 0, 0⟩] [] = true := by decide
theorem Wt.appK_ow {w : World} {o : Oper} {a : Act} {Q : Exit → Act → World → Prop} {K : Act → World → Prop} (hgd : o.guard = none) (s x : Operand)
    (ho : o.op = .call { callee := .builtin .append, args := #[s, x], argTypes := #[25, 25] }) {lo hi n c : Nat} {A : Option Addr} {l : List Wt} (hs : a.eval s = .slice A n c) (h : Ow Wt.cells 2 67 w lo hi (.slice A n c) l)
    (g cx : Nat) (y : Wt) (hx : a.eval x = .slice (some ⟨g, 0, none⟩) 1 cx) (hr : ∀ j u, (Wt.cells y)[j]? = some u → w.cell? ⟨g, j, none⟩ = some u) (hlen : n ≤ 4194304) (hlo : lo ≤ w.heap.size) (hhi : hi ≤ w.heap.size)
    (hk : ∀ v' w' row, Ow Wt.cells 2 67 w' lo w'.heap.size v' (l ++ [y]) → w.grownBy w' row → (∀ q, row = some q → lo ≤ q ∧ q < hi ∧ ∃ cur, w.heap[q]? = some (.cells cur 67 (0, 0))) → K (a.put o.dst v') w') {ops : Array Oper} : if Region.wanted o (yielded ops a.tmps) = true then Oper.wp Tryz.prog o a w K Q else K (a.put o.dst undef) w := by
  have hw : Region.wanted o (yielded ops a.tmps) = true := by simp [Region.wanted, hgd]
  rw [if_pos hw]
  obtain ⟨i0, hi0, hz0, hz1, hz2⟩ := info_parts Wt.info
  obtain ⟨v', w', hrun, h2, row, h3, h4⟩ := run_app_ow (P := Tryz.prog) w 25 o.type _ i0 _ 2 _ Tryz.underlying25 hi0 hz0 hz1 hz2 rfl (by omega) Wt.cells_len Wt.one h g cx y hr (by unfold maxLen; omega) (by omega) hlo hhi
  unfold Oper.wp execOp
  simp only [ho, resolve, invoke, builtin, Sem.run_bind, Sem.run_pure, Result.andThen_ok, List.map_toArray, List.map_cons, List.map_nil, hs, hx, hrun]
  exact hk v' w' row h2 h3 h4

set_option maxRecDepth 8000 in
set_option maxHeartbeats 8000000 in
theorem queue_any (g k : Nat) (cv : Value) (l : List UInt8) (w : World) {lo hi : Nat} (h : Rd By.cells 1 w lo hi cv l) (hh : hi ≤ w.heap.size) (hg : g < lo ∨ hi ≤ g) (hc : Cur w g cv k) (hk : k ≤ 50000) :
    Calls Tryz.prog 44 #[.pointer (some ⟨g, 0, none⟩)] w fun e w' => ∃ vs vw, ∃ ls : List Sl, ∃ lw : List Wt, e = .returned (.agg #[vs, vw]) ∧ Sl.dis ls ∧ ls.length ≤ 5 ∧ lw.length ≤ 9 ∧ Ow Sl.cells 3 76 w' w.heap.size w'.heap.size vs ls ∧ Ow Wt.cells 2 67 w' w.heap.size w'.heap.size vw lw ∧ w.grownBy w' (some g) ∧ Cur w' g cv (k + 300) := by
  have hgl := hc.lt
  go_enter Tryz.func44, Tryz.ntmps44
  have bR0 := Box.new w #[.slice none 0 0, .slice none 0 0] 27 rfl
  have B1 := (Below.refl w.heap.size w).alloc (Nat.le_refl _) (.cells #[.slice none 0 0, .slice none 0 0] 27)
  have z1 : (w.alloc (.cells #[.slice none 0 0, .slice none 0 0] 27)).heap.size = w.heap.size + 1 := by simp
  go_wp2_with fail
  generalize w.alloc (.cells #[.slice none 0 0, .slice none 0 0] 27) = w1 at *
  have o1 := lit_slots w1
  have l2 := (Below.refl w1.heap.size w1).alloc (Nat.le_refl _) (.cells #[.int .i64 0, .int .i64 0, .int .i64 0, .int .i64 0, .int .i64 0, .int .i64 0, .int .i64 0, .int .i64 0, .int .i64 0, .int .i64 0, .int .i64 0, .int .i64 0] 76)
  have z2 : (w1.alloc (.cells #[.int .i64 0, .int .i64 0, .int .i64 0, .int .i64 0, .int .i64 0, .int .i64 0, .int .i64 0, .int .i64 0, .int .i64 0, .int .i64 0, .int .i64 0, .int .i64 0] 76)).heap.size = w1.heap.size + 1 := by simp
  replace bR0 := bR0.below l2 bR0.lt
  replace B1 := B1.trans (l2.mono (by omega))
  rw [z1] at o1 z2
  clear l2
  generalize w1.alloc (.cells #[.int .i64 0, .int .i64 0, .int .i64 0, .int .i64 0, .int .i64 0, .int .i64 0, .int .i64 0, .int .i64 0, .int .i64 0, .int .i64 0, .int .i64 0, .int .i64 0] 76) = w2 at *
  have l3 := (Below.refl w2.heap.size w2).alloc (Nat.le_refl _) (.cells #[] 67)
  have o2 : Ow Wt.cells 2 67 (w2.alloc (.cells #[] 67)) w.heap.size (w2.alloc (.cells #[] 67)).heap.size (.slice (some ⟨w.heap.size + 1 + 1, 0, none⟩) 0 0) [] := Ow.lit0
  have z3 : (w2.alloc (.cells #[] 67)).heap.size = w2.heap.size + 1 := by simp
  replace bR0 := bR0.below l3 bR0.lt
  replace B1 := B1.trans (l3.mono (by omega))
  replace o1 := o1.below l3 (by omega)
  rw [z2] at z3
  clear l3
  generalize w2.alloc (.cells #[] 67) = w3 at *
  have l4 := (Below.refl w3.heap.size w3).alloc (Nat.le_refl _) (.cells #[.slice (some ⟨w.heap.size + 1, 0, none⟩) 4 4, .slice (some ⟨w.heap.size + 1 + 1, 0, none⟩) 0 0] 27)
  have bQ := Box.new (g := (w.heap.size + 1 + 1 + 1)) w3 #[.slice (some ⟨w.heap.size + 1, 0, none⟩) 4 4, .slice (some ⟨w.heap.size + 1 + 1, 0, none⟩) 0 0] 27 z3.symm
  have z4 : (w3.alloc (.cells #[.slice (some ⟨w.heap.size + 1, 0, none⟩) 4 4, .slice (some ⟨w.heap.size + 1 + 1, 0, none⟩) 0 0] 27)).heap.size = w3.heap.size + 1 := by simp
  replace bR0 := bR0.below l4 bR0.lt
  replace B1 := B1.trans (l4.mono (by omega))
  replace o1 := o1.below l4 (by omega)
  replace o2 := o2.below l4 (by omega)
  clear l4
  generalize w3.alloc (.cells #[.slice (some ⟨w.heap.size + 1, 0, none⟩) 4 4, .slice (some ⟨w.heap.size + 1 + 1, 0, none⟩) 0 0] 27) = w4 at *
  have HF : DQF w g lo hi (w.heap.size + 1 + 1 + 1) := ⟨hg, hh, hgl, by omega⟩
  have hq : DQ w g cv l lo hi k w4 (w.heap.size + 1 + 1 + 1) _ _ _ _ := ⟨h.below B1 hh, hc.grown0 (grown_below B1), grown_weaken (grown_below B1), bR0, bQ, o1.mono (by omega) (by omega), o2.mono (by omega) (by omega)⟩
  clear h hc bR0 B1 o1 o2 bQ z1 z2 z3 z4
  have hg0 := Lib.hid Qu.good0
  generalize w.heap.size + 1 + 1 + 1 = gQ at *
  have hgQ : w.heap.size < gQ := HF.hq
  refine (pick_any g _ _ l 14 _ hq.h (DQ.hle HF hq) hg hq.c (by omega) (by omega)).mono ?_; rintro q_ wp_x1 ⟨x1, rfl, x1_0, x1_1, gg, kk⟩
  replace hq := hq.pick HF gg kk
  clear gg kk
  obtain ⟨m, rfl⟩ : ∃ m : Nat, x1 = m := ⟨x1.toNat, by omega⟩
  have hm9 : m < 14 := by omega
  clear x1_0 x1_1
  go_wp2_with fail
  go_loopw [4] (fun v4 wr => ∃ (i q : Nat) (ls : List Sl) (lw : List Wt) (A0 A1 : Option Addr) (n0 c0 n1 c1 : Nat), i + q = m ∧ v4 = .int .i64 q ∧ Hid (Qu.good ls lw = true) ∧ DQ w g cv l lo hi (k + 2 + 8 * i) wr gQ (.slice A0 n0 c0) (.slice A1 n1 c1) ls lw) (fun v4 _ => (intOf v4).toNat)
  case atStart => exact ⟨0, m, _, _, _, _, _, _, _, _, by omega, rfl, hg0, hq⟩
  case round =>
    clear hq hg0
    obtain ⟨i, q, ls, lw, A0, A1, n0, c0, n1, c1, hiq, rfl, HGd, hq⟩ := hrel
    rcases Nat.eq_zero_or_pos q with hz | hz
    rotate_left
    · obtain ⟨p, rfl⟩ : ∃ p, q = p + 1 := ⟨q - 1, by omega⟩
      have hqd : decide ((0 : Int) < ((p + 1 : Nat) : Int)) = true := decide_eq_true (by omega)
      have bq0 := hq.q.cell (j := 0) rfl
      have bq1 := hq.q.cell (j := 1) rfl
      have bqz := hq.q.frozen
      have bql := hq.q.lt
      go_wp2_with fail
      clear bq0 bq1 bqz bql
      refine (pick_any g _ _ l 5 _ hq.h (DQ.hle HF hq) hg hq.c (by omega) (by omega)).mono ?_; rintro q_ wp_y1 ⟨y1, rfl, y1_0, y1_1, gg, kk⟩
      replace hq := hq.pick HF gg kk
      clear gg kk
      rcases (show y1 = 0 ∨ y1 = 1 ∨ y1 = 2 ∨ y1 = 3 ∨ y1 = 4 by omega) with rfl | rfl | rfl | rfl | rfl
      all_goals clear y1_0 y1_1
      · go_upto_region 9 with fail
        have hCalls := HGd.out
        have hPp := Lib.hid (Qu.good_parts hCalls).1
        clear hCalls
        replace hq := hq.below HF (Below.refl _ _).drew
        have bq0 := hq.q.cell (j := 0) rfl
        have bq1 := hq.q.cell (j := 1) rfl
        have bqz := hq.q.frozen
        have bql := hq.q.lt
        go_region_with (first | (go_at_call 56; refine (pick_any g _ _ l 8 _ hq.h (DQ.hle HF hq) hg hq.c (by omega) (by omega)).mono ?_; rintro q_ wp ⟨y, rfl, y_0, y_1, gg, kk⟩; (replace hq := hq.pick HF gg kk); (have bq0 := hq.q.cell (j := 0) rfl); (have bq1 := hq.q.cell (j := 1) rfl); (have bqz := hq.q.frozen); (have bql := hq.q.lt)) | (go_at_call 52; refine (specOffer_in _ _ ls lw _ _ _ hq.os.rd hq.ow.rd (Nat.le_refl _) (Nat.le_refl _) hPp.out (inB_mk (by omega)) (inB_mk (by omega))).mono ?_; rintro q_ wo ⟨v5, v6, rfl, o5, o6, bb⟩; (obtain ⟨A5, n5, c5, rfl, _, _, _⟩ := o5.rd.form); (obtain ⟨A6, n6, c6, rfl, _, _, _⟩ := o6.rd.form); (have zb := hq.size); (replace hq := hq.below HF bb); (have bq0 := hq.q.cell (j := 0) rfl); (have bq1 := hq.q.cell (j := 1) rfl); (have bqz := hq.q.frozen); (have bql := hq.q.lt)))
        all_goals
          go_wp2_with fail

          generalize hwz : World.setCell (World.setCell _ _ _) _ _ = wz_
          obtain rfl : wz_ = setL wo gQ 0 [.slice A5 n5 c5, .slice A6 n6 c6] := hwz.symm
          clear hwz
          replace hq := hq.store HF (o5.mono (by omega) (Nat.le_refl _)) (o6.mono (by omega) (Nat.le_refl _))
          generalize setL wo _ 0 _ = wS at *
          go_roundw
          case rel => exact ⟨i + 1, p, _, _, _, _, _, _, _, _, by omega, by go_num, Lib.hid (Qu.good_of HGd.out (by omega) (by omega)), ⟨hq.h, hq.c.mono (by omega), hq.G, hq.r, hq.q, hq.os, hq.ow⟩⟩
          case measure => simp [intOf]
      · go_upto_region 9 with fail
        have hCalls := HGd.out
        have hPp := Lib.hid (Qu.good_parts hCalls).1
        clear hCalls
        replace hq := hq.below HF (Below.refl _ _).drew
        have bq0 := hq.q.cell (j := 0) rfl
        have bq1 := hq.q.cell (j := 1) rfl
        have bqz := hq.q.frozen
        have bql := hq.q.lt
        go_region_with (first | (go_at_call 56; refine (pick_any g _ _ l 8 _ hq.h (DQ.hle HF hq) hg hq.c (by omega) (by omega)).mono ?_; rintro q_ wp ⟨y, rfl, y_0, y_1, gg, kk⟩; (replace hq := hq.pick HF gg kk); (have bq0 := hq.q.cell (j := 0) rfl); (have bq1 := hq.q.cell (j := 1) rfl); (have bqz := hq.q.frozen); (have bql := hq.q.lt)) | (go_at_call 52; refine (specOffer_in _ _ ls lw _ _ _ hq.os.rd hq.ow.rd (Nat.le_refl _) (Nat.le_refl _) hPp.out (inB_mk (by omega)) (inB_mk (by omega))).mono ?_; rintro q_ wo ⟨v5, v6, rfl, o5, o6, bb⟩; (obtain ⟨A5, n5, c5, rfl, _, _, _⟩ := o5.rd.form); (obtain ⟨A6, n6, c6, rfl, _, _, _⟩ := o6.rd.form); (have zb := hq.size); (replace hq := hq.below HF bb); (have bq0 := hq.q.cell (j := 0) rfl); (have bq1 := hq.q.cell (j := 1) rfl); (have bqz := hq.q.frozen); (have bql := hq.q.lt)))
        all_goals
          go_wp2_with fail

          generalize hwz : World.setCell (World.setCell _ _ _) _ _ = wz_
          obtain rfl : wz_ = setL wo gQ 0 [.slice A5 n5 c5, .slice A6 n6 c6] := hwz.symm
          clear hwz
          replace hq := hq.store HF (o5.mono (by omega) (Nat.le_refl _)) (o6.mono (by omega) (Nat.le_refl _))
          generalize setL wo _ 0 _ = wS at *
          go_roundw
          case rel => exact ⟨i + 1, p, _, _, _, _, _, _, _, _, by omega, by go_num, Lib.hid (Qu.good_of HGd.out (by omega) (by omega)), ⟨hq.h, hq.c.mono (by omega), hq.G, hq.r, hq.q, hq.os, hq.ow⟩⟩
          case measure => simp [intOf]
      · go_upto_region 9 with fail
        have hCalls := HGd.out
        have hPp := Lib.hid (Qu.good_parts hCalls).1
        clear hCalls
        replace hq := hq.below HF (Below.refl _ _).drew
        have bq0 := hq.q.cell (j := 0) rfl
        have bq1 := hq.q.cell (j := 1) rfl
        have bqz := hq.q.frozen
        have bql := hq.q.lt
        go_region_with (first | (go_at_call 56; refine (pick_any g _ _ l 8 _ hq.h (DQ.hle HF hq) hg hq.c (by omega) (by omega)).mono ?_; rintro q_ wp ⟨y, rfl, y_0, y_1, gg, kk⟩; (replace hq := hq.pick HF gg kk); (have bq0 := hq.q.cell (j := 0) rfl); (have bq1 := hq.q.cell (j := 1) rfl); (have bqz := hq.q.frozen); (have bql := hq.q.lt)) | (go_at_call 52; refine (specOffer_in _ _ ls lw _ _ _ hq.os.rd hq.ow.rd (Nat.le_refl _) (Nat.le_refl _) hPp.out (inB_mk (by omega)) (inB_mk (by omega))).mono ?_; rintro q_ wo ⟨v5, v6, rfl, o5, o6, bb⟩; (obtain ⟨A5, n5, c5, rfl, _, _, _⟩ := o5.rd.form); (obtain ⟨A6, n6, c6, rfl, _, _, _⟩ := o6.rd.form); (have zb := hq.size); (replace hq := hq.below HF bb); (have bq0 := hq.q.cell (j := 0) rfl); (have bq1 := hq.q.cell (j := 1) rfl); (have bqz := hq.q.frozen); (have bql := hq.q.lt)))
        all_goals
          go_wp2_with fail

          generalize hwz : World.setCell (World.setCell _ _ _) _ _ = wz_
          obtain rfl : wz_ = setL wo gQ 0 [.slice A5 n5 c5, .slice A6 n6 c6] := hwz.symm
          clear hwz
          replace hq := hq.store HF (o5.mono (by omega) (Nat.le_refl _)) (o6.mono (by omega) (Nat.le_refl _))
          generalize setL wo _ 0 _ = wS at *
          go_roundw
          case rel => exact ⟨i + 1, p, _, _, _, _, _, _, _, _, by omega, by go_num, Lib.hid (Qu.good_of HGd.out (by omega) (by omega)), ⟨hq.h, hq.c.mono (by omega), hq.G, hq.r, hq.q, hq.os, hq.ow⟩⟩
          case measure => simp [intOf]
      · have HP4 := Lib.hid (Qu.good_fit HGd.out)
        have bq0 := hq.q.cell (j := 0) rfl
        have bq1 := hq.q.cell (j := 1) rfl
        have bqz := hq.q.frozen
        have bql := hq.q.lt
        go_wp2_with fail
        clear bq0 bq1 bqz bql
        have zb := hq.size
        refine (specTakeQ_in _ _ ls lw 16 _ hq.os.rd hq.ow.rd (Nat.le_refl _) (Nat.le_refl _) (Qu.parts_get (Qu.good_parts HGd.out).1).1 (by have := HP4.out.2.2; omega)).mono ?_; rintro q_ wo ⟨v5, v6, rfl, o5, o6, bb⟩
        obtain ⟨A5, n5, c5, rfl, _, _, _⟩ := o5.rd.form
        obtain ⟨A6, n6, c6, rfl, _, _, _⟩ := o6.rd.form
        replace hq := hq.below HF bb
        have bq0 := hq.q.cell (j := 0) rfl
        have bq1 := hq.q.cell (j := 1) rfl
        have bqz := hq.q.frozen
        have bql := hq.q.lt
        go_wp2_with fail
        clear bq0 bq1 bqz bql
        generalize hwz : World.setCell (World.setCell _ _ _) _ _ = wz_
        obtain rfl : wz_ = setL wo gQ 0 [.slice A5 n5 c5, .slice A6 n6 c6] := hwz.symm
        clear hwz
        replace hq := hq.store HF (o5.mono (by omega) (Nat.le_refl _)) (o6.mono (by omega) (Nat.le_refl _))
        generalize setL wo _ 0 _ = wS at *
        go_roundw
        case rel => exact ⟨i + 1, p, _, _, _, _, _, _, _, _, by omega, by go_num, Lib.hid (Qu.good_tkL HGd.out 16), ⟨hq.h, hq.c.mono (by omega), hq.G, hq.r, hq.q, hq.os, hq.ow⟩⟩
        case measure => simp [intOf]
      · have hPp := Lib.hid (Qu.good_parts HGd.out).1
        have bq0 := hq.q.cell (j := 0) rfl
        have bq1 := hq.q.cell (j := 1) rfl
        have bqz := hq.q.frozen
        have bql := hq.q.lt
        go_upto_region 13 with fail
        clear bq0 bq1 bqz bql
        go_cut [5, 6] (fun s5 s6 wx => ∃ (ww : World) (gT : Nat) (y : Int) (A5 A6 : Option Addr) (n5 c5 n6 c6 : Nat), ww = wx ∧ s5 = .pointer (some ⟨gT, 0, none⟩) ∧ s6 = .bool (Sl.endOk ls y) ∧ DQ w g cv l lo hi (k + 2 + 8 * i + 2 + 2) wx gQ (.slice A0 n0 c0) (.slice A1 n1 c1) ls lw ∧ gQ < gT ∧ Box wx gT 27 [.slice A5 n5 c5, .slice A6 n6 c6] ∧ Ow Sl.cells 3 76 wx w.heap.size wx.heap.size (.slice A5 n5 c5) (Qu.eiS ls lw y) ∧ Ow Wt.cells 2 67 wx w.heap.size wx.heap.size (.slice A6 n6 c6) (Qu.eiW ls lw y))
        case first =>
          refine wp_region_held_drew (S := fun W => Box W gQ 27 [.slice A0 n0 c0, .slice A1 n1 c1]) (by kernel_rfl) (show (fun (W : World) => Box W gQ 27 [.slice A0 n0 c0, .slice A1 n1 c1]) wp_y1.drew from hq.q.drew) (fun hHeld => ?_)
          refine wpAnyH_take (i := 0) (v := .agg #[.slice A0 n0 c0, .slice A1 n1 c1]) rfl (by kernel_rfl) (by kernel_rfl) (by kernel_rfl) (fun _ _ _ h => h) (Or.inl ⟨by rfl, by intro w hSw; have hS0 := hSw; have y00 := hS0.cell (j := 0) rfl; have y01 := hS0.cell (j := 1) rfl; go_simp⟩) hHeld ?_
          refine wpAnyH_take (i := 1) (v := .pointer (some ⟨g, 0, none⟩)) rfl (by kernel_rfl) (by kernel_rfl) (by kernel_rfl) (fun _ _ _ h => h) (Or.inl ⟨by rfl, by intro w hSw; have hS0 := hSw; have y00 := hS0.cell (j := 0) rfl; have y01 := hS0.cell (j := 1) rfl; go_simp⟩) hHeld ?_
          clear hHeld
          refine held_gen (F := fun W' => DQ w g cv l lo hi (k + 2 + 8 * i + 2) W' gQ (.slice A0 n0 c0) (.slice A1 n1 c1) ls lw) (hq.below HF (Below.refl _ _).drew) ?_
          clear hq
          rintro wh hq
          refine wpAnyH_ready (rs := [2, 7]) (by kernel_rfl) (by decide) ?_
          refine AllReadyH.cons rfl (fun K1a hK1a => ?_) (AllReadyH.cons rfl (fun K1b hK1b => ?_) AllReadyH.nil)
          · go_simp
            refine (pick_any g _ _ l 8 _ hq.h (DQ.hle HF hq) hg hq.c (by omega) (by omega)).mono ?_; rintro q_ wp2 ⟨y2, rfl, y2_0, y2_1, gg, kk⟩
            replace hq := hq.pick HF gg kk
            clear gg kk
            refine hK1a.out _ _ hq.q (fun _ => ?_)
            refine wpAnyH_ready (rs := [3, 7]) (by kernel_rfl) (by decide) ?_
            refine AllReadyH.cons rfl (fun K2a hK2a => ?_) (AllReadyH.cons rfl (fun K2b hK2b => ?_) AllReadyH.nil)
            · go_simp
              have zb := hq.size
              refine (specEndQ_in _ _ ls lw y2 _ hq.os.rd hq.ow.rd (Nat.le_refl _) (Nat.le_refl _) hPp.out).mono ?_; rintro q_ wo ⟨v5, v6, rfl, o5, o6, bb⟩
              obtain ⟨A5, n5, c5, rfl, _, _, _⟩ := o5.rd.form
              obtain ⟨A6, n6, c6, rfl, _, _, _⟩ := o6.rd.form
              replace hq := hq.below HF bb
              replace o5 := o5.mono zb (Nat.le_refl _)
              replace o6 := o6.mono zb (Nat.le_refl _)
              clear bb
              refine hK2a.out _ _ hq.q (fun _ => ?_)
              have hHeld : (fun (W : World) => Box W gQ 27 [.slice A0 n0 c0, .slice A1 n1 c1]) wo := hq.q
              refine wpAnyH_take (i := 4) (v := .tuple #[.agg #[.slice A5 n5 c5, .slice A6 n6 c6], .bool (Sl.endOk ls y2)]) rfl (by kernel_rfl) (by kernel_rfl) (by kernel_rfl) (fun _ _ _ h => h) (Or.inl ⟨by rfl, by intro w hSw; have hS0 := hSw; have y00 := hS0.cell (j := 0) rfl; have y01 := hS0.cell (j := 1) rfl; go_simp⟩) hHeld ?_
              refine wpAnyH_take (i := 5) (v := .agg #[.slice A5 n5 c5, .slice A6 n6 c6]) rfl (by kernel_rfl) (by kernel_rfl) (by kernel_rfl) (fun _ _ _ h => h) (Or.inl ⟨by rfl, by intro w hSw; have hS0 := hSw; have y00 := hS0.cell (j := 0) rfl; have y01 := hS0.cell (j := 1) rfl; go_simp⟩) hHeld ?_
              refine wpAnyH_take (i := 6) (v := .bool (Sl.endOk ls y2)) rfl (by kernel_rfl) (by kernel_rfl) (by kernel_rfl) (fun _ _ _ h => h) (Or.inl ⟨by rfl, by intro w hSw; have hS0 := hSw; have y00 := hS0.cell (j := 0) rfl; have y01 := hS0.cell (j := 1) rfl; go_simp⟩) hHeld ?_
              clear hHeld
              refine wpAnyH_ready (rs := [7]) (by kernel_rfl) (by decide) ?_
              refine AllReadyH.cons rfl (fun K3 hK3 => ?_) AllReadyH.nil
              go_simp
              obtain ⟨hqa, bT, hbT, bb⟩ := hq.boxed HF
              replace hq := hqa
              clear hqa
              replace o5 := (o5.below bb (Nat.le_refl _)).mono (Nat.le_refl _) bb.size
              replace o6 := (o6.below bb (Nat.le_refl _)).mono (Nat.le_refl _) bb.size
              clear bb
              generalize wo.alloc _ = wa at *
              generalize wo.heap.size = gT at *
              refine hK3.out _ _ hq.q (fun _ => ?_)
              refine wpAnyH_ready (rs := [8]) (by kernel_rfl) (by decide) ?_
              refine AllReadyH.cons rfl (fun K4 hK4 => ?_) AllReadyH.nil
              have bt0 := bT.cell (j := 0) rfl
              have bt1 := bT.cell (j := 1) rfl
              have btz := bT.frozen
              have btl := bT.lt
              go_simp
              clear bt0 bt1 btz btl
              generalize hwz : World.setCell (World.setCell _ _ _) _ _ = wz_
              obtain rfl : wz_ = setL wa gT 0 [.slice A5 n5 c5, .slice A6 n6 c6] := hwz.symm
              clear hwz
              replace hq := hq.other HF bT (by omega) (by omega) 0 [.slice A5 n5 c5, .slice A6 n6 c6]
              have zS : (setL wa gT 0 [.slice A5 n5 c5, .slice A6 n6 c6]).heap.size = wa.heap.size := setL_size _ _ _ _
              replace o5 := (o5.box bT (by decide) 0 [.slice A5 n5 c5, .slice A6 n6 c6]).mono (Nat.le_refl _) (Nat.le_of_eq zS.symm)
              replace o6 := (o6.box bT (by decide) 0 [.slice A5 n5 c5, .slice A6 n6 c6]).mono (Nat.le_refl _) (Nat.le_of_eq zS.symm)
              replace bT := bT.setAll [.slice A5 n5 c5, .slice A6 n6 c6] rfl
              clear zS
              generalize setL wa _ 0 _ = wt at *
              refine hK4.out _ _ hq.q (fun _ => ?_)
              refine wpAnyH_ready (rs := [9]) (by kernel_rfl) (by decide) ?_
              refine AllReadyH.cons rfl (fun K5 hK5 => ?_) AllReadyH.nil
              go_simp
              refine hK5.out _ _ hq.q (fun _ => ?_)
              refine ⟨by kernel_rfl, ?_⟩
              go_wp2_with fail
              go_meet
              exact ⟨_, gT, y2, _, _, _, _, _, _, rfl, rfl, rfl, hq, hbT, bT, o5, o6⟩
            · go_simp
              obtain ⟨hqa, bT, hbT, bb⟩ := hq.boxed HF
              replace hq := hqa
              clear hqa
              clear bb
              generalize wp2.alloc _ = wa at *
              generalize wp2.heap.size = gT at *
              refine hK2b.out _ _ hq.q (fun _ => ?_)
              refine wpAnyH_ready (rs := [3]) (by kernel_rfl) (by decide) ?_
              refine AllReadyH.cons rfl (fun K6 hK6 => ?_) AllReadyH.nil
              go_simp
              have zb := hq.size
              refine (specEndQ_in _ _ ls lw y2 _ hq.os.rd hq.ow.rd (Nat.le_refl _) (Nat.le_refl _) hPp.out).mono ?_; rintro q_ wo ⟨v5, v6, rfl, o5, o6, bb⟩
              obtain ⟨A5, n5, c5, rfl, _, _, _⟩ := o5.rd.form
              obtain ⟨A6, n6, c6, rfl, _, _, _⟩ := o6.rd.form
              replace hq := hq.below HF bb
              replace o5 := o5.mono zb (Nat.le_refl _)
              replace o6 := o6.mono zb (Nat.le_refl _)
              replace bT := bT.below bb bT.lt
              clear bb
              refine hK6.out _ _ hq.q (fun _ => ?_)
              have hHeld : (fun (W : World) => Box W gQ 27 [.slice A0 n0 c0, .slice A1 n1 c1]) wo := hq.q
              refine wpAnyH_take (i := 4) (v := .tuple #[.agg #[.slice A5 n5 c5, .slice A6 n6 c6], .bool (Sl.endOk ls y2)]) rfl (by kernel_rfl) (by kernel_rfl) (by kernel_rfl) (fun _ _ _ h => h) (Or.inl ⟨by rfl, by intro w hSw; have hS0 := hSw; have y00 := hS0.cell (j := 0) rfl; have y01 := hS0.cell (j := 1) rfl; go_simp⟩) hHeld ?_
              refine wpAnyH_take (i := 5) (v := .agg #[.slice A5 n5 c5, .slice A6 n6 c6]) rfl (by kernel_rfl) (by kernel_rfl) (by kernel_rfl) (fun _ _ _ h => h) (Or.inl ⟨by rfl, by intro w hSw; have hS0 := hSw; have y00 := hS0.cell (j := 0) rfl; have y01 := hS0.cell (j := 1) rfl; go_simp⟩) hHeld ?_
              refine wpAnyH_take (i := 6) (v := .bool (Sl.endOk ls y2)) rfl (by kernel_rfl) (by kernel_rfl) (by kernel_rfl) (fun _ _ _ h => h) (Or.inl ⟨by rfl, by intro w hSw; have hS0 := hSw; have y00 := hS0.cell (j := 0) rfl; have y01 := hS0.cell (j := 1) rfl; go_simp⟩) hHeld ?_
              clear hHeld
              refine wpAnyH_ready (rs := [8]) (by kernel_rfl) (by decide) ?_
              refine AllReadyH.cons rfl (fun K7 hK7 => ?_) AllReadyH.nil
              have bt0 := bT.cell (j := 0) rfl
              have bt1 := bT.cell (j := 1) rfl
              have btz := bT.frozen
              have btl := bT.lt
              go_simp
              clear bt0 bt1 btz btl
              generalize hwz : World.setCell (World.setCell _ _ _) _ _ = wz_
              obtain rfl : wz_ = setL wo gT 0 [.slice A5 n5 c5, .slice A6 n6 c6] := hwz.symm
              clear hwz
              replace hq := hq.other HF bT (by omega) (by omega) 0 [.slice A5 n5 c5, .slice A6 n6 c6]
              have zS : (setL wo gT 0 [.slice A5 n5 c5, .slice A6 n6 c6]).heap.size = wo.heap.size := setL_size _ _ _ _
              replace o5 := (o5.box bT (by decide) 0 [.slice A5 n5 c5, .slice A6 n6 c6]).mono (Nat.le_refl _) (Nat.le_of_eq zS.symm)
              replace o6 := (o6.box bT (by decide) 0 [.slice A5 n5 c5, .slice A6 n6 c6]).mono (Nat.le_refl _) (Nat.le_of_eq zS.symm)
              replace bT := bT.setAll [.slice A5 n5 c5, .slice A6 n6 c6] rfl
              clear zS
              generalize setL wo _ 0 _ = wt at *
              refine hK7.out _ _ hq.q (fun _ => ?_)
              refine wpAnyH_ready (rs := [9]) (by kernel_rfl) (by decide) ?_
              refine AllReadyH.cons rfl (fun K8 hK8 => ?_) AllReadyH.nil
              go_simp
              refine hK8.out _ _ hq.q (fun _ => ?_)
              refine ⟨by kernel_rfl, ?_⟩
              go_wp2_with fail
              go_meet
              exact ⟨_, gT, y2, _, _, _, _, _, _, rfl, rfl, rfl, hq, hbT, bT, o5, o6⟩
          · go_simp
            obtain ⟨hqa, bT, hbT, bb⟩ := hq.boxed HF
            replace hq := hqa
            clear hqa
            clear bb
            generalize wh.alloc _ = wa at *
            generalize wh.heap.size = gT at *
            refine hK1b.out _ _ hq.q (fun _ => ?_)
            refine wpAnyH_ready (rs := [2]) (by kernel_rfl) (by decide) ?_
            refine AllReadyH.cons rfl (fun K9 hK9 => ?_) AllReadyH.nil
            go_simp
            refine (pick_any g _ _ l 8 _ hq.h (DQ.hle HF hq) hg hq.c (by omega) (by omega)).mono ?_; rintro q_ wp2 ⟨y2, rfl, y2_0, y2_1, gg, kk⟩
            replace hq := hq.pick HF gg kk
            replace bT := bT.keep (gg.block _ bT.lt (fun e => by injection e with e; omega))
            clear gg kk
            refine hK9.out _ _ hq.q (fun _ => ?_)
            refine wpAnyH_ready (rs := [3]) (by kernel_rfl) (by decide) ?_
            refine AllReadyH.cons rfl (fun K10 hK10 => ?_) AllReadyH.nil
            go_simp
            have zb := hq.size
            refine (specEndQ_in _ _ ls lw y2 _ hq.os.rd hq.ow.rd (Nat.le_refl _) (Nat.le_refl _) hPp.out).mono ?_; rintro q_ wo ⟨v5, v6, rfl, o5, o6, bb⟩
            obtain ⟨A5, n5, c5, rfl, _, _, _⟩ := o5.rd.form
            obtain ⟨A6, n6, c6, rfl, _, _, _⟩ := o6.rd.form
            replace hq := hq.below HF bb
            replace o5 := o5.mono zb (Nat.le_refl _)
            replace o6 := o6.mono zb (Nat.le_refl _)
            replace bT := bT.below bb bT.lt
            clear bb
            refine hK10.out _ _ hq.q (fun _ => ?_)
            have hHeld : (fun (W : World) => Box W gQ 27 [.slice A0 n0 c0, .slice A1 n1 c1]) wo := hq.q
            refine wpAnyH_take (i := 4) (v := .tuple #[.agg #[.slice A5 n5 c5, .slice A6 n6 c6], .bool (Sl.endOk ls y2)]) rfl (by kernel_rfl) (by kernel_rfl) (by kernel_rfl) (fun _ _ _ h => h) (Or.inl ⟨by rfl, by intro w hSw; have hS0 := hSw; have y00 := hS0.cell (j := 0) rfl; have y01 := hS0.cell (j := 1) rfl; go_simp⟩) hHeld ?_
            refine wpAnyH_take (i := 5) (v := .agg #[.slice A5 n5 c5, .slice A6 n6 c6]) rfl (by kernel_rfl) (by kernel_rfl) (by kernel_rfl) (fun _ _ _ h => h) (Or.inl ⟨by rfl, by intro w hSw; have hS0 := hSw; have y00 := hS0.cell (j := 0) rfl; have y01 := hS0.cell (j := 1) rfl; go_simp⟩) hHeld ?_
            refine wpAnyH_take (i := 6) (v := .bool (Sl.endOk ls y2)) rfl (by kernel_rfl) (by kernel_rfl) (by kernel_rfl) (fun _ _ _ h => h) (Or.inl ⟨by rfl, by intro w hSw; have hS0 := hSw; have y00 := hS0.cell (j := 0) rfl; have y01 := hS0.cell (j := 1) rfl; go_simp⟩) hHeld ?_
            clear hHeld
            refine wpAnyH_ready (rs := [8]) (by kernel_rfl) (by decide) ?_
            refine AllReadyH.cons rfl (fun K11 hK11 => ?_) AllReadyH.nil
            have bt0 := bT.cell (j := 0) rfl
            have bt1 := bT.cell (j := 1) rfl
            have btz := bT.frozen
            have btl := bT.lt
            go_simp
            clear bt0 bt1 btz btl
            generalize hwz : World.setCell (World.setCell _ _ _) _ _ = wz_
            obtain rfl : wz_ = setL wo gT 0 [.slice A5 n5 c5, .slice A6 n6 c6] := hwz.symm
            clear hwz
            replace hq := hq.other HF bT (by omega) (by omega) 0 [.slice A5 n5 c5, .slice A6 n6 c6]
            have zS : (setL wo gT 0 [.slice A5 n5 c5, .slice A6 n6 c6]).heap.size = wo.heap.size := setL_size _ _ _ _
            replace o5 := (o5.box bT (by decide) 0 [.slice A5 n5 c5, .slice A6 n6 c6]).mono (Nat.le_refl _) (Nat.le_of_eq zS.symm)
            replace o6 := (o6.box bT (by decide) 0 [.slice A5 n5 c5, .slice A6 n6 c6]).mono (Nat.le_refl _) (Nat.le_of_eq zS.symm)
            replace bT := bT.setAll [.slice A5 n5 c5, .slice A6 n6 c6] rfl
            clear zS
            generalize setL wo _ 0 _ = wt at *
            refine hK11.out _ _ hq.q (fun _ => ?_)
            refine wpAnyH_ready (rs := [9]) (by kernel_rfl) (by decide) ?_
            refine AllReadyH.cons rfl (fun K12 hK12 => ?_) AllReadyH.nil
            go_simp
            refine hK12.out _ _ hq.q (fun _ => ?_)
            refine ⟨by kernel_rfl, ?_⟩
            go_wp2_with fail
            go_meet
            exact ⟨_, gT, y2, _, _, _, _, _, _, rfl, rfl, rfl, hq, hbT, bT, o5, o6⟩
        case rest =>
          obtain ⟨wx, gT, y, A5, A6, n5, c5, n6, c6, rfl, rfl, rfl, hq, zT, bT, o5, o6⟩ := hcut
          cases hk : Sl.endOk ls y
          · clear hk bT o5 o6
            have bq0 := hq.q.cell (j := 0) rfl
            have bq1 := hq.q.cell (j := 1) rfl
            have bqz := hq.q.frozen
            have bql := hq.q.lt
            go_wp2_with fail
            clear bq0 bq1 bqz bql
            go_roundw
            case rel => exact ⟨i + 1, p, ls, lw, _, _, _, _, _, _, by omega, by go_num, HGd, ⟨hq.h, hq.c.mono (by omega), hq.G, hq.r, hq.q, hq.os, hq.ow⟩⟩
            case measure => simp [intOf]
          · have HG2 := Lib.hid (Qu.good_ei HGd.out hk)
            clear hk
            have bt0 := bT.cell (j := 0) rfl
            have bt1 := bT.cell (j := 1) rfl
            have btz := bT.frozen
            have btl := bT.lt
            have bq0 := hq.q.cell (j := 0) rfl
            have bq1 := hq.q.cell (j := 1) rfl
            have bqz := hq.q.frozen
            have bql := hq.q.lt
            go_wp2_with fail
            clear bq0 bq1 bqz bql
            clear bt0 bt1 btz btl
            generalize hwz : World.setCell (World.setCell _ _ _) _ _ = wz_
            obtain rfl : wz_ = setL wx gQ 0 [.slice A5 n5 c5, .slice A6 n6 c6] := hwz.symm
            clear hwz
            replace hq := hq.store HF o5 o6
            generalize setL wx _ 0 _ = wS at *
            go_roundw
            case rel => exact ⟨i + 1, p, _, _, _, _, _, _, _, _, by omega, by go_num, HG2, ⟨hq.h, hq.c.mono (by omega), hq.G, hq.r, hq.q, hq.os, hq.ow⟩⟩
            case measure => simp [intOf]
    obtain rfl : i = m := by omega
    subst hz
    have HFt := Lib.hid (Qu.good_fit HGd.out)
    obtain rfl : n0 = 4 := by have := hq.os.rd.n_eq.1; rw [this]; exact HFt.out.2.1
    have hn8 : n1 ≤ 8 := by have := hq.ow.rd.n_eq.1; rw [this]; exact HFt.out.2.2
    have hnw := Lib.hid hq.ow.rd.n_eq.1
    have bq0 := hq.q.cell (j := 0) rfl
    have bq1 := hq.q.cell (j := 1) rfl
    have bqz := hq.q.frozen
    have bql := hq.q.lt
    go_wp2_with fail
    clear bq0 bq1 bqz bql
    refine (pick_any g _ _ l 24 _ hq.h (DQ.hle HF hq) hg hq.c (by omega) (by omega)).mono ?_; rintro q_ wp_z1 ⟨z1, rfl, z1_0, z1_1, gg, kk⟩
    replace hq := hq.pick HF gg kk
    clear gg kk
    by_cases h0 : z1 = 0
    rotate_left
    by_cases h1 : z1 = 1
    rotate_left
    by_cases h2 : z1 = 2
    rotate_left
    · have h0b : (z1 == 0) = false := by rw [beq_eq_false_iff_ne]; exact h0
      have h1b : (z1 == 1) = false := by rw [beq_eq_false_iff_ne]; exact h1
      have h2b : (z1 == 2) = false := by rw [beq_eq_false_iff_ne]; exact h2
      have bq0 := hq.q.cell (j := 0) rfl
      have bq1 := hq.q.cell (j := 1) rfl
      have bqz := hq.q.frozen
      have bql := hq.q.lt
      have br0 := hq.r.cell (j := 0) rfl
      have br1 := hq.r.cell (j := 1) rfl
      have brz := hq.r.frozen
      have brl := hq.r.lt
      go_wp2_with fail
      clear br0 br1 brz brl
      clear bq0 bq1 bqz bql
      generalize hwz : World.setCell (World.setCell _ _ _) _ _ = wz_
      obtain rfl : wz_ = setL wp_z1 (w.heap.size) 0 [.slice A0 4 c0, .slice A1 n1 c1] := hwz.symm
      clear hwz
      have o1 := hq.os.box hq.r (by decide) 0 [.slice A0 4 c0, .slice A1 n1 c1]
      have o2 := hq.ow.box hq.r (by decide) 0 [.slice A0 4 c0, .slice A1 n1 c1]
      have gS := setL_grown [.slice A0 4 c0, .slice A1 n1 c1] wp_z1 (w.heap.size) 0
      have hG := grown_new hq.G gS (fun q e => by injection e with e; omega)
      have hc := hq.c.other gS (by omega)
      have bR := hq.r.setAll [.slice A0 4 c0, .slice A1 n1 c1] rfl
      have zS : (setL wp_z1 (w.heap.size) 0 [.slice A0 4 c0, .slice A1 n1 c1]).heap.size = wp_z1.heap.size := setL_size _ _ _ _
      generalize setL wp_z1 _ 0 _ = wE at *
      have u0_ := bR.cell (j := 0) rfl
      have u1_ := bR.cell (j := 1) rfl
      refine bodyPost_ret (by simp only [results, Tryz.results44]; simp [go_sem, u0_, u1_]; rfl) rfl ?_
      have F5 := (show ls.length ≤ 5 by have := HFt.out.2.1; omega)
      have F9 := (show lw.length ≤ 9 by have := HFt.out.2.2; omega)
      have O1 := o1.mono (Nat.le_refl _) (Nat.le_of_eq zS.symm)
      have O2 := o2.mono (Nat.le_refl _) (Nat.le_of_eq zS.symm)
      first | exact ⟨_, _, _, _, rfl, HFt.out.1, F5, F9, O1, O2, hG, hc.mono (by omega)⟩ | exact ⟨_, _, rfl, _, HFt.out.1, F5, _, F9, O1, O2, hG, hc.mono (by omega)⟩
    · subst h0
      have bq0 := hq.q.cell (j := 0) rfl
      have bq1 := hq.q.cell (j := 1) rfl
      have bqz := hq.q.frozen
      have bql := hq.q.lt
      go_wp2_with fail
      clear bq0 bq1 bqz bql
      have zb := hq.size
      refine (slots_any g _ _ l _ hq.h (DQ.hle HF hq) hg hq.c (by omega)).mono ?_; rintro q_ wo ⟨v5, l5, rfl, n5_, d5_, o5, gg, kk⟩
      obtain ⟨A5, n5, c5, rfl, _, _, _⟩ := o5.rd.form
      replace hq := hq.pick HF gg kk
      clear gg kk
      have bq0 := hq.q.cell (j := 0) rfl
      have bq1 := hq.q.cell (j := 1) rfl
      have bqz := hq.q.frozen
      have bql := hq.q.lt
      have br0 := hq.r.cell (j := 0) rfl
      have br1 := hq.r.cell (j := 1) rfl
      have brz := hq.r.frozen
      have brl := hq.r.lt
      go_upto_region 24 with fail
      clear br0 br1 brz brl bq0 bq1 bqz bql
      generalize hwz : World.setCell _ _ _ = wz_
      obtain rfl : wz_ = setL wo gQ 0 [.slice A5 n5 c5] := hwz.symm
      clear hwz
      replace hq := hq.store1 HF (o5.mono zb (Nat.le_refl _))
      generalize setL wo _ 0 _ = wS at *
      have bq0 := hq.q.cell (j := 0) rfl
      have bq1 := hq.q.cell (j := 1) rfl
      have bqz := hq.q.frozen
      have bql := hq.q.lt
      have br0 := hq.r.cell (j := 0) rfl
      have br1 := hq.r.cell (j := 1) rfl
      have brz := hq.r.frozen
      have brl := hq.r.lt
      go_wp2_with fail
      clear br0 br1 brz brl
      clear bq0 bq1 bqz bql
      generalize hwz : World.setCell (World.setCell _ _ _) _ _ = wz_
      obtain rfl : wz_ = setL wS (w.heap.size) 0 [.slice A5 n5 c5, .slice A1 n1 c1] := hwz.symm
      clear hwz
      have o1 := hq.os.box hq.r (by decide) 0 [.slice A5 n5 c5, .slice A1 n1 c1]
      have o2 := hq.ow.box hq.r (by decide) 0 [.slice A5 n5 c5, .slice A1 n1 c1]
      have gS := setL_grown [.slice A5 n5 c5, .slice A1 n1 c1] wS (w.heap.size) 0
      have hG := grown_new hq.G gS (fun q e => by injection e with e; omega)
      have hc := hq.c.other gS (by omega)
      have bR := hq.r.setAll [.slice A5 n5 c5, .slice A1 n1 c1] rfl
      have zS : (setL wS (w.heap.size) 0 [.slice A5 n5 c5, .slice A1 n1 c1]).heap.size = wS.heap.size := setL_size _ _ _ _
      generalize setL wS _ 0 _ = wE at *
      have u0_ := bR.cell (j := 0) rfl
      have u1_ := bR.cell (j := 1) rfl
      refine bodyPost_ret (by simp only [results, Tryz.results44]; simp [go_sem, u0_, u1_]; rfl) rfl ?_
      have F5 := n5_
      have F9 := (show lw.length ≤ 9 by have := HFt.out.2.2; omega)
      have O1 := o1.mono (Nat.le_refl _) (Nat.le_of_eq zS.symm)
      have O2 := o2.mono (Nat.le_refl _) (Nat.le_of_eq zS.symm)
      first | exact ⟨_, _, _, _, rfl, d5_, F5, F9, O1, O2, hG, hc.mono (by omega)⟩ | exact ⟨_, _, rfl, _, d5_, F5, _, F9, O1, O2, hG, hc.mono (by omega)⟩
    · subst h1
      have bq0 := hq.q.cell (j := 0) rfl
      have bq1 := hq.q.cell (j := 1) rfl
      have bqz := hq.q.frozen
      have bql := hq.q.lt
      go_upto_region 20 with fail
      clear bq0 bq1 bqz bql
      refine wp_region_held_drew (S := fun _ => True) (by kernel_rfl) trivial (fun hHeld => ?_)
      refine wpAnyH_take (i := 0) (v := .pointer (some ⟨gQ, 1, none⟩)) rfl (by kernel_rfl) (by kernel_rfl) (by kernel_rfl) (fun _ _ _ h => h) (Or.inl ⟨by rfl, by intro w hSw; go_simp⟩) hHeld ?_
      refine wpAnyH_take (i := 2) (v := .pointer (some ⟨g, 0, none⟩)) rfl (by kernel_rfl) (by kernel_rfl) (by kernel_rfl) (fun _ _ _ h => h) (Or.inl ⟨by rfl, by intro w hSw; go_simp⟩) hHeld ?_
      refine wpAnyH_take (i := 4) (v := .pointer (some ⟨g, 0, none⟩)) rfl (by kernel_rfl) (by kernel_rfl) (by kernel_rfl) (fun _ _ _ h => h) (Or.inl ⟨by rfl, by intro w hSw; go_simp⟩) hHeld ?_
      clear hHeld
      refine held_gen (F := fun W' => DQ w g cv l lo hi (k + 2 + 8 * i + 2) W' gQ (.slice A0 4 c0) (.slice A1 n1 c1) ls lw) (hq.below HF (Below.refl _ _).drew) ?_
      clear hq
      rintro wh hq
      refine wpAnyH_ready (rs := [1, 3]) (by kernel_rfl) (by decide) ?_
      refine AllReadyH.cons rfl (fun K13a hK13a => ?_) (AllReadyH.cons rfl (fun K13b hK13b => ?_) AllReadyH.nil)
      · have bq0 := hq.q.cell (j := 0) rfl
        have bq1 := hq.q.cell (j := 1) rfl
        have bqz := hq.q.frozen
        have bql := hq.q.lt
        go_simp
        clear bq0 bq1 bqz bql
        refine hK13a.out _ _ trivial (fun _ => ?_)
        refine wpAnyH_ready (rs := [3]) (by kernel_rfl) (by decide) ?_
        refine AllReadyH.cons rfl (fun K14 hK14 => ?_) AllReadyH.nil
        go_simp
        refine (irq_any g _ _ l _ hq.h (DQ.hle HF hq) hg hq.c (by omega)).mono ?_; rintro q_ w_yi ⟨yi, rfl, gg, kk⟩
        replace hq := hq.pick HF gg kk
        clear gg kk
        refine hK14.out _ _ trivial (fun _ => ?_)
        refine wpAnyH_ready (rs := [5]) (by kernel_rfl) (by decide) ?_
        refine AllReadyH.cons rfl (fun K15 hK15 => ?_) AllReadyH.nil
        go_simp
        refine (prio_any g _ _ l _ hq.h (DQ.hle HF hq) hg hq.c (by omega)).mono ?_; rintro q_ w_yp ⟨yp, rfl, gg, kk⟩
        replace hq := hq.pick HF gg kk
        clear gg kk
        refine hK15.out _ _ trivial (fun _ => ?_)
        have hHeld : (fun (_ : World) => True) w_yp := trivial
        refine wpAnyH_take (i := 6) (v := .agg #[.int .i64 yi, .int .i64 yp]) rfl (by kernel_rfl) (by kernel_rfl) (by kernel_rfl) (fun _ _ _ h => h) (Or.inl ⟨by rfl, by intro w hSw; go_simp⟩) hHeld ?_
        clear hHeld
        refine wpAnyH_ready (rs := [7]) (by kernel_rfl) (by decide) ?_
        refine AllReadyH.cons rfl (fun K16 hK16 => ?_) AllReadyH.nil
        go_simp
        have bb := (Below.refl w_yp.heap.size w_yp).alloc (Nat.le_refl _) (.cells #[.int .i64 yi, .int .i64 yp] 67)
        have bN := Box.new w_yp #[.int .i64 yi, .int .i64 yp] 67 rfl
        have hzN := hq.q.lt
        replace hq := hq.below HF bb
        clear bb
        generalize w_yp.alloc _ = wa at *
        generalize w_yp.heap.size = gN at *
        refine hK16.out _ _ trivial (fun _ => ?_)
        refine wpAnyH_ready (rs := [8]) (by kernel_rfl) (by decide) ?_
        refine AllReadyH.cons rfl (fun K17 hK17 => ?_) AllReadyH.nil
        refine Wt.appK_ow rfl _ _ rfl rfl hq.ow gN 1 ⟨yi, yp⟩ rfl (fun j u hu => by rcases j with _ | _ | j <;> simp [Wt.cells] at hu <;> subst hu <;> first | exact bN.cell (j := 0) rfl | exact bN.cell (j := 1) rfl) (by omega) hq.size (Nat.le_refl _) ?_
        intro v8 w8 row8 o8 g8 r8
        obtain ⟨A8, n8, c8, rfl, _, _, _⟩ := o8.rd.form
        have bq8 := hq.app_box g8 r8
        replace hq := hq.app HF g8 r8 o8
        refine hK17.out _ _ trivial (fun _ => ?_)
        have hHeld : (fun (_ : World) => True) w8 := trivial
        refine wpAnyH_take (i := 9) (v := .pointer (some ⟨gQ, 1, none⟩)) rfl (by kernel_rfl) (by kernel_rfl) (by kernel_rfl) (fun _ _ _ h => h) (Or.inl ⟨by rfl, by intro w hSw; go_simp⟩) hHeld ?_
        clear hHeld
        refine wpAnyH_ready (rs := [10]) (by kernel_rfl) (by decide) ?_
        refine AllReadyH.cons rfl (fun K18 hK18 => ?_) AllReadyH.nil
        have bq0 := bq8.cell (j := 0) rfl
        have bq1 := bq8.cell (j := 1) rfl
        have bqz := bq8.frozen
        have bql := bq8.lt
        go_simp
        clear bq0 bq1 bqz bql bq8
        generalize hwz : World.setCell _ _ _ = wz_
        obtain rfl : wz_ = setL w8 gQ 1 [.slice A8 n8 c8] := hwz.symm
        clear hwz
        generalize setL w8 _ 1 _ = wS at *
        refine hK18.out _ _ trivial (fun _ => ?_)
        refine ⟨by kernel_rfl, ?_⟩
        have bq0 := hq.q.cell (j := 0) rfl
        have bq1 := hq.q.cell (j := 1) rfl
        have bqz := hq.q.frozen
        have bql := hq.q.lt
        have br0 := hq.r.cell (j := 0) rfl
        have br1 := hq.r.cell (j := 1) rfl
        have brz := hq.r.frozen
        have brl := hq.r.lt
        go_wp2_with fail
        clear br0 br1 brz brl
        clear bq0 bq1 bqz bql
        generalize hwz : World.setCell (World.setCell _ _ _) _ _ = wz_
        obtain rfl : wz_ = setL wS (w.heap.size) 0 [.slice A0 4 c0, .slice A8 n8 c8] := hwz.symm
        clear hwz
        have o1 := hq.os.box hq.r (by decide) 0 [.slice A0 4 c0, .slice A8 n8 c8]
        have o2 := hq.ow.box hq.r (by decide) 0 [.slice A0 4 c0, .slice A8 n8 c8]
        have gS := setL_grown [.slice A0 4 c0, .slice A8 n8 c8] wS (w.heap.size) 0
        have hG := grown_new hq.G gS (fun q e => by injection e with e; omega)
        have hc := hq.c.other gS (by omega)
        have bR := hq.r.setAll [.slice A0 4 c0, .slice A8 n8 c8] rfl
        have zS : (setL wS (w.heap.size) 0 [.slice A0 4 c0, .slice A8 n8 c8]).heap.size = wS.heap.size := setL_size _ _ _ _
        generalize setL wS _ 0 _ = wE at *
        have u0_ := bR.cell (j := 0) rfl
        have u1_ := bR.cell (j := 1) rfl
        refine bodyPost_ret (by simp only [results, Tryz.results44]; simp [go_sem, u0_, u1_]; rfl) rfl ?_
        have F5 := (show ls.length ≤ 5 by have := HFt.out.2.1; omega)
        have F9 := (show (lw ++ [(⟨yi, yp⟩ : Wt)]).length ≤ 9 by have := HFt.out.2.2; simp; omega)
        have O1 := o1.mono (Nat.le_refl _) (Nat.le_of_eq zS.symm)
        have O2 := o2.mono (Nat.le_refl _) (Nat.le_of_eq zS.symm)
        first | exact ⟨_, _, _, _, rfl, HFt.out.1, F5, F9, O1, O2, hG, hc.mono (by omega)⟩ | exact ⟨_, _, rfl, _, HFt.out.1, F5, _, F9, O1, O2, hG, hc.mono (by omega)⟩
      · go_simp
        refine (irq_any g _ _ l _ hq.h (DQ.hle HF hq) hg hq.c (by omega)).mono ?_; rintro q_ w_yi ⟨yi, rfl, gg, kk⟩
        replace hq := hq.pick HF gg kk
        clear gg kk
        refine hK13b.out _ _ trivial (fun _ => ?_)
        refine wpAnyH_ready (rs := [1, 5]) (by kernel_rfl) (by decide) ?_
        refine AllReadyH.cons rfl (fun K19a hK19a => ?_) (AllReadyH.cons rfl (fun K19b hK19b => ?_) AllReadyH.nil)
        · have bq0 := hq.q.cell (j := 0) rfl
          have bq1 := hq.q.cell (j := 1) rfl
          have bqz := hq.q.frozen
          have bql := hq.q.lt
          go_simp
          clear bq0 bq1 bqz bql
          refine hK19a.out _ _ trivial (fun _ => ?_)
          refine wpAnyH_ready (rs := [5]) (by kernel_rfl) (by decide) ?_
          refine AllReadyH.cons rfl (fun K20 hK20 => ?_) AllReadyH.nil
          go_simp
          refine (prio_any g _ _ l _ hq.h (DQ.hle HF hq) hg hq.c (by omega)).mono ?_; rintro q_ w_yp ⟨yp, rfl, gg, kk⟩
          replace hq := hq.pick HF gg kk
          clear gg kk
          refine hK20.out _ _ trivial (fun _ => ?_)
          have hHeld : (fun (_ : World) => True) w_yp := trivial
          refine wpAnyH_take (i := 6) (v := .agg #[.int .i64 yi, .int .i64 yp]) rfl (by kernel_rfl) (by kernel_rfl) (by kernel_rfl) (fun _ _ _ h => h) (Or.inl ⟨by rfl, by intro w hSw; go_simp⟩) hHeld ?_
          clear hHeld
          refine wpAnyH_ready (rs := [7]) (by kernel_rfl) (by decide) ?_
          refine AllReadyH.cons rfl (fun K21 hK21 => ?_) AllReadyH.nil
          go_simp
          have bb := (Below.refl w_yp.heap.size w_yp).alloc (Nat.le_refl _) (.cells #[.int .i64 yi, .int .i64 yp] 67)
          have bN := Box.new w_yp #[.int .i64 yi, .int .i64 yp] 67 rfl
          have hzN := hq.q.lt
          replace hq := hq.below HF bb
          clear bb
          generalize w_yp.alloc _ = wa at *
          generalize w_yp.heap.size = gN at *
          refine hK21.out _ _ trivial (fun _ => ?_)
          refine wpAnyH_ready (rs := [8]) (by kernel_rfl) (by decide) ?_
          refine AllReadyH.cons rfl (fun K22 hK22 => ?_) AllReadyH.nil
          refine Wt.appK_ow rfl _ _ rfl rfl hq.ow gN 1 ⟨yi, yp⟩ rfl (fun j u hu => by rcases j with _ | _ | j <;> simp [Wt.cells] at hu <;> subst hu <;> first | exact bN.cell (j := 0) rfl | exact bN.cell (j := 1) rfl) (by omega) hq.size (Nat.le_refl _) ?_
          intro v8 w8 row8 o8 g8 r8
          obtain ⟨A8, n8, c8, rfl, _, _, _⟩ := o8.rd.form
          have bq8 := hq.app_box g8 r8
          replace hq := hq.app HF g8 r8 o8
          refine hK22.out _ _ trivial (fun _ => ?_)
          have hHeld : (fun (_ : World) => True) w8 := trivial
          refine wpAnyH_take (i := 9) (v := .pointer (some ⟨gQ, 1, none⟩)) rfl (by kernel_rfl) (by kernel_rfl) (by kernel_rfl) (fun _ _ _ h => h) (Or.inl ⟨by rfl, by intro w hSw; go_simp⟩) hHeld ?_
          clear hHeld
          refine wpAnyH_ready (rs := [10]) (by kernel_rfl) (by decide) ?_
          refine AllReadyH.cons rfl (fun K23 hK23 => ?_) AllReadyH.nil
          have bq0 := bq8.cell (j := 0) rfl
          have bq1 := bq8.cell (j := 1) rfl
          have bqz := bq8.frozen
          have bql := bq8.lt
          go_simp
          clear bq0 bq1 bqz bql bq8
          generalize hwz : World.setCell _ _ _ = wz_
          obtain rfl : wz_ = setL w8 gQ 1 [.slice A8 n8 c8] := hwz.symm
          clear hwz
          generalize setL w8 _ 1 _ = wS at *
          refine hK23.out _ _ trivial (fun _ => ?_)
          refine ⟨by kernel_rfl, ?_⟩
          have bq0 := hq.q.cell (j := 0) rfl
          have bq1 := hq.q.cell (j := 1) rfl
          have bqz := hq.q.frozen
          have bql := hq.q.lt
          have br0 := hq.r.cell (j := 0) rfl
          have br1 := hq.r.cell (j := 1) rfl
          have brz := hq.r.frozen
          have brl := hq.r.lt
          go_wp2_with fail
          clear br0 br1 brz brl
          clear bq0 bq1 bqz bql
          generalize hwz : World.setCell (World.setCell _ _ _) _ _ = wz_
          obtain rfl : wz_ = setL wS (w.heap.size) 0 [.slice A0 4 c0, .slice A8 n8 c8] := hwz.symm
          clear hwz
          have o1 := hq.os.box hq.r (by decide) 0 [.slice A0 4 c0, .slice A8 n8 c8]
          have o2 := hq.ow.box hq.r (by decide) 0 [.slice A0 4 c0, .slice A8 n8 c8]
          have gS := setL_grown [.slice A0 4 c0, .slice A8 n8 c8] wS (w.heap.size) 0
          have hG := grown_new hq.G gS (fun q e => by injection e with e; omega)
          have hc := hq.c.other gS (by omega)
          have bR := hq.r.setAll [.slice A0 4 c0, .slice A8 n8 c8] rfl
          have zS : (setL wS (w.heap.size) 0 [.slice A0 4 c0, .slice A8 n8 c8]).heap.size = wS.heap.size := setL_size _ _ _ _
          generalize setL wS _ 0 _ = wE at *
          have u0_ := bR.cell (j := 0) rfl
          have u1_ := bR.cell (j := 1) rfl
          refine bodyPost_ret (by simp only [results, Tryz.results44]; simp [go_sem, u0_, u1_]; rfl) rfl ?_
          have F5 := (show ls.length ≤ 5 by have := HFt.out.2.1; omega)
          have F9 := (show (lw ++ [(⟨yi, yp⟩ : Wt)]).length ≤ 9 by have := HFt.out.2.2; simp; omega)
          have O1 := o1.mono (Nat.le_refl _) (Nat.le_of_eq zS.symm)
          have O2 := o2.mono (Nat.le_refl _) (Nat.le_of_eq zS.symm)
          first | exact ⟨_, _, _, _, rfl, HFt.out.1, F5, F9, O1, O2, hG, hc.mono (by omega)⟩ | exact ⟨_, _, rfl, _, HFt.out.1, F5, _, F9, O1, O2, hG, hc.mono (by omega)⟩
        · go_simp
          refine (prio_any g _ _ l _ hq.h (DQ.hle HF hq) hg hq.c (by omega)).mono ?_; rintro q_ w_yp ⟨yp, rfl, gg, kk⟩
          replace hq := hq.pick HF gg kk
          clear gg kk
          refine hK19b.out _ _ trivial (fun _ => ?_)
          have hHeld : (fun (_ : World) => True) w_yp := trivial
          refine wpAnyH_take (i := 6) (v := .agg #[.int .i64 yi, .int .i64 yp]) rfl (by kernel_rfl) (by kernel_rfl) (by kernel_rfl) (fun _ _ _ h => h) (Or.inl ⟨by rfl, by intro w hSw; go_simp⟩) hHeld ?_
          clear hHeld
          refine wpAnyH_ready (rs := [1, 7]) (by kernel_rfl) (by decide) ?_
          refine AllReadyH.cons rfl (fun K24a hK24a => ?_) (AllReadyH.cons rfl (fun K24b hK24b => ?_) AllReadyH.nil)
          · have bq0 := hq.q.cell (j := 0) rfl
            have bq1 := hq.q.cell (j := 1) rfl
            have bqz := hq.q.frozen
            have bql := hq.q.lt
            go_simp
            clear bq0 bq1 bqz bql
            refine hK24a.out _ _ trivial (fun _ => ?_)
            refine wpAnyH_ready (rs := [7]) (by kernel_rfl) (by decide) ?_
            refine AllReadyH.cons rfl (fun K25 hK25 => ?_) AllReadyH.nil
            go_simp
            have bb := (Below.refl w_yp.heap.size w_yp).alloc (Nat.le_refl _) (.cells #[.int .i64 yi, .int .i64 yp] 67)
            have bN := Box.new w_yp #[.int .i64 yi, .int .i64 yp] 67 rfl
            have hzN := hq.q.lt
            replace hq := hq.below HF bb
            clear bb
            generalize w_yp.alloc _ = wa at *
            generalize w_yp.heap.size = gN at *
            refine hK25.out _ _ trivial (fun _ => ?_)
            refine wpAnyH_ready (rs := [8]) (by kernel_rfl) (by decide) ?_
            refine AllReadyH.cons rfl (fun K26 hK26 => ?_) AllReadyH.nil
            refine Wt.appK_ow rfl _ _ rfl rfl hq.ow gN 1 ⟨yi, yp⟩ rfl (fun j u hu => by rcases j with _ | _ | j <;> simp [Wt.cells] at hu <;> subst hu <;> first | exact bN.cell (j := 0) rfl | exact bN.cell (j := 1) rfl) (by omega) hq.size (Nat.le_refl _) ?_
            intro v8 w8 row8 o8 g8 r8
            obtain ⟨A8, n8, c8, rfl, _, _, _⟩ := o8.rd.form
            have bq8 := hq.app_box g8 r8
            replace hq := hq.app HF g8 r8 o8
            refine hK26.out _ _ trivial (fun _ => ?_)
            have hHeld : (fun (_ : World) => True) w8 := trivial
            refine wpAnyH_take (i := 9) (v := .pointer (some ⟨gQ, 1, none⟩)) rfl (by kernel_rfl) (by kernel_rfl) (by kernel_rfl) (fun _ _ _ h => h) (Or.inl ⟨by rfl, by intro w hSw; go_simp⟩) hHeld ?_
            clear hHeld
            refine wpAnyH_ready (rs := [10]) (by kernel_rfl) (by decide) ?_
            refine AllReadyH.cons rfl (fun K27 hK27 => ?_) AllReadyH.nil
            have bq0 := bq8.cell (j := 0) rfl
            have bq1 := bq8.cell (j := 1) rfl
            have bqz := bq8.frozen
            have bql := bq8.lt
            go_simp
            clear bq0 bq1 bqz bql bq8
            generalize hwz : World.setCell _ _ _ = wz_
            obtain rfl : wz_ = setL w8 gQ 1 [.slice A8 n8 c8] := hwz.symm
            clear hwz
            generalize setL w8 _ 1 _ = wS at *
            refine hK27.out _ _ trivial (fun _ => ?_)
            refine ⟨by kernel_rfl, ?_⟩
            have bq0 := hq.q.cell (j := 0) rfl
            have bq1 := hq.q.cell (j := 1) rfl
            have bqz := hq.q.frozen
            have bql := hq.q.lt
            have br0 := hq.r.cell (j := 0) rfl
            have br1 := hq.r.cell (j := 1) rfl
            have brz := hq.r.frozen
            have brl := hq.r.lt
            go_wp2_with fail
            clear br0 br1 brz brl
            clear bq0 bq1 bqz bql
            generalize hwz : World.setCell (World.setCell _ _ _) _ _ = wz_
            obtain rfl : wz_ = setL wS (w.heap.size) 0 [.slice A0 4 c0, .slice A8 n8 c8] := hwz.symm
            clear hwz
            have o1 := hq.os.box hq.r (by decide) 0 [.slice A0 4 c0, .slice A8 n8 c8]
            have o2 := hq.ow.box hq.r (by decide) 0 [.slice A0 4 c0, .slice A8 n8 c8]
            have gS := setL_grown [.slice A0 4 c0, .slice A8 n8 c8] wS (w.heap.size) 0
            have hG := grown_new hq.G gS (fun q e => by injection e with e; omega)
            have hc := hq.c.other gS (by omega)
            have bR := hq.r.setAll [.slice A0 4 c0, .slice A8 n8 c8] rfl
            have zS : (setL wS (w.heap.size) 0 [.slice A0 4 c0, .slice A8 n8 c8]).heap.size = wS.heap.size := setL_size _ _ _ _
            generalize setL wS _ 0 _ = wE at *
            have u0_ := bR.cell (j := 0) rfl
            have u1_ := bR.cell (j := 1) rfl
            refine bodyPost_ret (by simp only [results, Tryz.results44]; simp [go_sem, u0_, u1_]; rfl) rfl ?_
            have F5 := (show ls.length ≤ 5 by have := HFt.out.2.1; omega)
            have F9 := (show (lw ++ [(⟨yi, yp⟩ : Wt)]).length ≤ 9 by have := HFt.out.2.2; simp; omega)
            have O1 := o1.mono (Nat.le_refl _) (Nat.le_of_eq zS.symm)
            have O2 := o2.mono (Nat.le_refl _) (Nat.le_of_eq zS.symm)
            first | exact ⟨_, _, _, _, rfl, HFt.out.1, F5, F9, O1, O2, hG, hc.mono (by omega)⟩ | exact ⟨_, _, rfl, _, HFt.out.1, F5, _, F9, O1, O2, hG, hc.mono (by omega)⟩
          · go_simp
            have bb := (Below.refl w_yp.heap.size w_yp).alloc (Nat.le_refl _) (.cells #[.int .i64 yi, .int .i64 yp] 67)
            have bN := Box.new w_yp #[.int .i64 yi, .int .i64 yp] 67 rfl
            have hzN := hq.q.lt
            replace hq := hq.below HF bb
            clear bb
            generalize w_yp.alloc _ = wa at *
            generalize w_yp.heap.size = gN at *
            refine hK24b.out _ _ trivial (fun _ => ?_)
            refine wpAnyH_ready (rs := [1]) (by kernel_rfl) (by decide) ?_
            refine AllReadyH.cons rfl (fun K28 hK28 => ?_) AllReadyH.nil
            have bq0 := hq.q.cell (j := 0) rfl
            have bq1 := hq.q.cell (j := 1) rfl
            have bqz := hq.q.frozen
            have bql := hq.q.lt
            go_simp
            clear bq0 bq1 bqz bql
            refine hK28.out _ _ trivial (fun _ => ?_)
            refine wpAnyH_ready (rs := [8]) (by kernel_rfl) (by decide) ?_
            refine AllReadyH.cons rfl (fun K29 hK29 => ?_) AllReadyH.nil
            refine Wt.appK_ow rfl _ _ rfl rfl hq.ow gN 1 ⟨yi, yp⟩ rfl (fun j u hu => by rcases j with _ | _ | j <;> simp [Wt.cells] at hu <;> subst hu <;> first | exact bN.cell (j := 0) rfl | exact bN.cell (j := 1) rfl) (by omega) hq.size (Nat.le_refl _) ?_
            intro v8 w8 row8 o8 g8 r8
            obtain ⟨A8, n8, c8, rfl, _, _, _⟩ := o8.rd.form
            have bq8 := hq.app_box g8 r8
            replace hq := hq.app HF g8 r8 o8
            refine hK29.out _ _ trivial (fun _ => ?_)
            have hHeld : (fun (_ : World) => True) w8 := trivial
            refine wpAnyH_take (i := 9) (v := .pointer (some ⟨gQ, 1, none⟩)) rfl (by kernel_rfl) (by kernel_rfl) (by kernel_rfl) (fun _ _ _ h => h) (Or.inl ⟨by rfl, by intro w hSw; go_simp⟩) hHeld ?_
            clear hHeld
            refine wpAnyH_ready (rs := [10]) (by kernel_rfl) (by decide) ?_
            refine AllReadyH.cons rfl (fun K30 hK30 => ?_) AllReadyH.nil
            have bq0 := bq8.cell (j := 0) rfl
            have bq1 := bq8.cell (j := 1) rfl
            have bqz := bq8.frozen
            have bql := bq8.lt
            go_simp
            clear bq0 bq1 bqz bql bq8
            generalize hwz : World.setCell _ _ _ = wz_
            obtain rfl : wz_ = setL w8 gQ 1 [.slice A8 n8 c8] := hwz.symm
            clear hwz
            generalize setL w8 _ 1 _ = wS at *
            refine hK30.out _ _ trivial (fun _ => ?_)
            refine ⟨by kernel_rfl, ?_⟩
            have bq0 := hq.q.cell (j := 0) rfl
            have bq1 := hq.q.cell (j := 1) rfl
            have bqz := hq.q.frozen
            have bql := hq.q.lt
            have br0 := hq.r.cell (j := 0) rfl
            have br1 := hq.r.cell (j := 1) rfl
            have brz := hq.r.frozen
            have brl := hq.r.lt
            go_wp2_with fail
            clear br0 br1 brz brl
            clear bq0 bq1 bqz bql
            generalize hwz : World.setCell (World.setCell _ _ _) _ _ = wz_
            obtain rfl : wz_ = setL wS (w.heap.size) 0 [.slice A0 4 c0, .slice A8 n8 c8] := hwz.symm
            clear hwz
            have o1 := hq.os.box hq.r (by decide) 0 [.slice A0 4 c0, .slice A8 n8 c8]
            have o2 := hq.ow.box hq.r (by decide) 0 [.slice A0 4 c0, .slice A8 n8 c8]
            have gS := setL_grown [.slice A0 4 c0, .slice A8 n8 c8] wS (w.heap.size) 0
            have hG := grown_new hq.G gS (fun q e => by injection e with e; omega)
            have hc := hq.c.other gS (by omega)
            have bR := hq.r.setAll [.slice A0 4 c0, .slice A8 n8 c8] rfl
            have zS : (setL wS (w.heap.size) 0 [.slice A0 4 c0, .slice A8 n8 c8]).heap.size = wS.heap.size := setL_size _ _ _ _
            generalize setL wS _ 0 _ = wE at *
            have u0_ := bR.cell (j := 0) rfl
            have u1_ := bR.cell (j := 1) rfl
            refine bodyPost_ret (by simp only [results, Tryz.results44]; simp [go_sem, u0_, u1_]; rfl) rfl ?_
            have F5 := (show ls.length ≤ 5 by have := HFt.out.2.1; omega)
            have F9 := (show (lw ++ [(⟨yi, yp⟩ : Wt)]).length ≤ 9 by have := HFt.out.2.2; simp; omega)
            have O1 := o1.mono (Nat.le_refl _) (Nat.le_of_eq zS.symm)
            have O2 := o2.mono (Nat.le_refl _) (Nat.le_of_eq zS.symm)
            first | exact ⟨_, _, _, _, rfl, HFt.out.1, F5, F9, O1, O2, hG, hc.mono (by omega)⟩ | exact ⟨_, _, rfl, _, HFt.out.1, F5, _, F9, O1, O2, hG, hc.mono (by omega)⟩
    · subst h2
      have bq0 := hq.q.cell (j := 0) rfl
      have bq1 := hq.q.cell (j := 1) rfl
      have bqz := hq.q.frozen
      have bql := hq.q.lt
      rcases Nat.eq_zero_or_pos n1 with hn1 | hn1
      · subst hn1
        have br0 := hq.r.cell (j := 0) rfl
        have br1 := hq.r.cell (j := 1) rfl
        have brz := hq.r.frozen
        have brl := hq.r.lt
        go_wp2_with fail
        clear br0 br1 brz brl
        generalize hwz : World.setCell (World.setCell _ _ _) _ _ = wz_
        obtain rfl : wz_ = setL wp_z1 (w.heap.size) 0 [.slice A0 4 c0, .slice A1 0 c1] := hwz.symm
        clear hwz
        have o1 := hq.os.box hq.r (by decide) 0 [.slice A0 4 c0, .slice A1 0 c1]
        have o2 := hq.ow.box hq.r (by decide) 0 [.slice A0 4 c0, .slice A1 0 c1]
        have gS := setL_grown [.slice A0 4 c0, .slice A1 0 c1] wp_z1 (w.heap.size) 0
        have hG := grown_new hq.G gS (fun q e => by injection e with e; omega)
        have hc := hq.c.other gS (by omega)
        have bR := hq.r.setAll [.slice A0 4 c0, .slice A1 0 c1] rfl
        have zS : (setL wp_z1 (w.heap.size) 0 [.slice A0 4 c0, .slice A1 0 c1]).heap.size = wp_z1.heap.size := setL_size _ _ _ _
        generalize setL wp_z1 _ 0 _ = wE at *
        have u0_ := bR.cell (j := 0) rfl
        have u1_ := bR.cell (j := 1) rfl
        refine bodyPost_ret (by simp only [results, Tryz.results44]; simp [go_sem, u0_, u1_]; rfl) rfl ?_
        have F5 := (show ls.length ≤ 5 by have := HFt.out.2.1; omega)
        have F9 := (show lw.length ≤ 9 by have := HFt.out.2.2; omega)
        have O1 := o1.mono (Nat.le_refl _) (Nat.le_of_eq zS.symm)
        have O2 := o2.mono (Nat.le_refl _) (Nat.le_of_eq zS.symm)
        first | exact ⟨_, _, _, _, rfl, HFt.out.1, F5, F9, O1, O2, hG, hc.mono (by omega)⟩ | exact ⟨_, _, rfl, _, HFt.out.1, F5, _, F9, O1, O2, hG, hc.mono (by omega)⟩
      · have hnd : decide ((0 : Int) < (n1 : Int)) = true := decide_eq_true (by omega)
        go_upto_region 23 with fail
        clear bq0 bq1 bqz bql
        obtain ⟨b, off, t0, rfl, _, hbl, _, _⟩ := Sl.get hq.os.rd (show 0 < 4 by omega) (Below.refl wp_z1.heap.size wp_z1) (Nat.le_refl _)
        replace hq := hq.below HF (Below.refl _ _).drew
        have bq0 := hq.q.cell (j := 0) rfl
        have bq1 := hq.q.cell (j := 1) rfl
        have bqz := hq.q.frozen
        have bql := hq.q.lt
        go_region_with (go_at_call 56; refine (pick_any g _ _ l 4 _ hq.h (DQ.hle HF hq) hg hq.c (by omega) (by omega)).mono ?_; rintro q_ wq ⟨yj, rfl, yj_0, yj_1, gg, kk⟩; (replace hq := hq.pick HF gg kk); (obtain ⟨j4, rfl⟩ : ∃ j : Nat, yj = j := ⟨yj.toNat, by omega⟩); (have hj4 : j4 < 4 := by omega); (have hji : (j4 : Int) < 4 := by omega); (clear yj_0 yj_1); (have bq0 := hq.q.cell (j := 0) rfl); (have bq1 := hq.q.cell (j := 1) rfl); (have bqz := hq.q.frozen); (have bql := hq.q.lt); (obtain ⟨b', off', t, hAA, HT, _, hb2, f0, f1, f2⟩ := Sl.get hq.os.rd hj4 (Below.refl wq.heap.size wq) (Nat.le_refl _)); (injection hAA with hAA); (injection hAA with e1 e2); (subst e1); (subst e2); (have hfz := hq.os.frozen (by omega)))
        all_goals
          go_upto_region 24 with fail
          generalize hwz : World.setCell (World.setCell (World.setCell _ _ _) _ _) _ _ = wz_
          obtain rfl : wz_ = setL wq b (off + j4 * 3) (Sl.cells ⟨0, 0, 0⟩) := hwz.symm
          clear hwz f0 f1 f2 hfz
          replace hq := hq.slot HF (t' := ⟨0, 0, 0⟩) HT.out hj4 (by omega)
          generalize setL wq b _ _ = wS at *
          have bq0 := hq.q.cell (j := 0) rfl
          have bq1 := hq.q.cell (j := 1) rfl
          have bqz := hq.q.frozen
          have bql := hq.q.lt
          have br0 := hq.r.cell (j := 0) rfl
          have br1 := hq.r.cell (j := 1) rfl
          have brz := hq.r.frozen
          have brl := hq.r.lt
          go_wp2_with fail
          clear br0 br1 brz brl
          clear bq0 bq1 bqz bql
          generalize hwz : World.setCell (World.setCell _ _ _) _ _ = wz_
          obtain rfl : wz_ = setL wS (w.heap.size) 0 [.slice (some ⟨b, off, none⟩) 4 c0, .slice A1 n1 c1] := hwz.symm
          clear hwz
          have o1 := hq.os.box hq.r (by decide) 0 [.slice (some ⟨b, off, none⟩) 4 c0, .slice A1 n1 c1]
          have o2 := hq.ow.box hq.r (by decide) 0 [.slice (some ⟨b, off, none⟩) 4 c0, .slice A1 n1 c1]
          have gS := setL_grown [.slice (some ⟨b, off, none⟩) 4 c0, .slice A1 n1 c1] wS (w.heap.size) 0
          have hG := grown_new hq.G gS (fun q e => by injection e with e; omega)
          have hc := hq.c.other gS (by omega)
          have bR := hq.r.setAll [.slice (some ⟨b, off, none⟩) 4 c0, .slice A1 n1 c1] rfl
          have zS : (setL wS (w.heap.size) 0 [.slice (some ⟨b, off, none⟩) 4 c0, .slice A1 n1 c1]).heap.size = wS.heap.size := setL_size _ _ _ _
          generalize setL wS _ 0 _ = wE at *
          have u0_ := bR.cell (j := 0) rfl
          have u1_ := bR.cell (j := 1) rfl
          refine bodyPost_ret (by simp only [results, Tryz.results44]; simp [go_sem, u0_, u1_]; rfl) rfl ?_
          have F5 := (show (ls.set j4 ⟨0, 0, 0⟩).length ≤ 5 by rw [List.length_set]; have := HFt.out.2.1; omega)
          have F9 := (show lw.length ≤ 9 by have := HFt.out.2.2; omega)
          have O1 := o1.mono (Nat.le_refl _) (Nat.le_of_eq zS.symm)
          have O2 := o2.mono (Nat.le_refl _) (Nat.le_of_eq zS.symm)
          first | exact ⟨_, _, _, _, rfl, Sl.dis_set HFt.out.1 rfl j4, F5, F9, O1, O2, hG, hc.mono (by omega)⟩ | exact ⟨_, _, rfl, _, Sl.dis_set HFt.out.1 rfl j4, F5, _, F9, O1, O2, hG, hc.mono (by omega)⟩

end Go.Proofs.YtfpaafmckeeecaaGreat

/- The reference's Draw functions of the queues' laws: they return something, in new memory. No condition. -/
namespace Go.Proofs.YtfpaafmckeeecaaGreat
open Go.RowKit Go.ChangeShapes Go.WideShapes Go.Deep

set_option maxRecDepth 8000 in
set_option maxHeartbeats 2000000 in
theorem DrawTakeQueue_any (cv : Value) (l : List UInt8) (w : World) {lo hi : Nat} (h : Rd By.cells 1 w lo hi cv l) (hh : hi ≤ w.heap.size) :
    Calls Tryz.prog 23 #[cv] w fun e w' => ∃ vs vw, ∃ ls : List Sl, ∃ lw : List Wt, ∃ x : Int, e = .returned (.tuple #[.agg #[vs, vw], .int .i64 x]) ∧ ls.length ≤ 1048576 ∧ lw.length ≤ 1048576 ∧ Ow Sl.cells 3 76 w' w.heap.size w'.heap.size vs ls ∧ Ow Wt.cells 2 67 w' w.heap.size w'.heap.size vw lw ∧ Below w.heap.size w w' := by
  obtain ⟨Ac, nc, cc, rfl, _, _, _⟩ := h.form
  go_enter Tryz.func23, Tryz.ntmps23
  go_wp2_with fail
  have bR := Box.new w #[.slice none 0 0, .slice none 0 0] 27 rfl
  have hB := (Below.refl w.heap.size w).alloc (Nat.le_refl _) (.cells #[.slice none 0 0, .slice none 0 0] 27)
  have zr : (w.alloc (.cells #[.slice none 0 0, .slice none 0 0] 27)).heap.size = w.heap.size + 1 := by simp
  generalize w.alloc (.cells #[.slice none 0 0, .slice none 0 0] 27) = wR at *
  have bx := Box.new wR #[.slice Ac nc cc, .int .i64 0, .int .u64 0] 57 rfl
  have bl := (Below.refl wR.heap.size wR).alloc (Nat.le_refl _) (.cells #[.slice Ac nc cc, .int .i64 0, .int .u64 0] 57)
  replace bR := bR.below bl bR.lt
  replace hB := hB.alloc (by omega) (.cells #[.slice Ac nc cc, .int .i64 0, .int .u64 0] 57)
  have za : (wR.alloc (.cells #[.slice Ac nc cc, .int .i64 0, .int .u64 0] 57)).heap.size = wR.heap.size + 1 := by simp
  have hc : Cur (wR.alloc (.cells #[.slice Ac nc cc, .int .i64 0, .int .u64 0] 57)) wR.heap.size (.slice Ac nc cc) 0 := ⟨0, 0, Nat.le_refl _, Lib.hid (by unfold U64; omega), bx⟩
  have hg : wR.heap.size < lo ∨ hi ≤ wR.heap.size := .inr (by omega)
  replace h := h.below hB hh
  clear bx bl
  generalize wR.alloc _ = w0 at *
  generalize wR.heap.size = g at *
  rw [← zr]
  refine (queue_any g _ _ l w0 h (by omega) hg hc (by omega)).mono ?_; rintro q_ w1 ⟨v1, v2, l1, m1, rfl, d1, n1, n2, o1, o2, gg1, kk1⟩
  clear hc
  replace h := h.grown gg1 (by omega) (fun q e => by injection e with e; omega)
  replace bR := bR.keep (gg1.block _ bR.lt (fun e => by injection e with e; omega))
  replace hB := hB.grown gg1 (by omega) (fun q e => by injection e with e; omega)
  have z_2 := gg1.size
  clear gg1
  obtain ⟨A1, k1, c1, rfl, _, _, _⟩ := o1.rd.form
  obtain ⟨A2, k2, c2, rfl, _, _, _⟩ := o2.rd.form
  have bR_z := bR.frozen
  have bR_l := bR.lt
  have bR_0 := bR.cell (j := 0) rfl
  have bR_1 := bR.cell (j := 1) rfl
  go_wp2_with fail
  clear bR_z bR_l bR_0 bR_1
  rw [← zr]
  have rl := lit_ints w1 [16, 16, 16, 8, 4, 2, 0, 17, -1] #[.int .i64 16, .int .i64 16, .int .i64 16, .int .i64 8, .int .i64 4, .int .i64 2, .int .i64 0, .int .i64 17, .int .i64 (-1)] 9 rfl rfl (by decide)
  have ga3 := grown_alloc w1 (.cells #[.int .i64 16, .int .i64 16, .int .i64 16, .int .i64 8, .int .i64 4, .int .i64 2, .int .i64 0, .int .i64 17, .int .i64 (-1)] 3)
  have za3 : (w1.alloc (.cells #[.int .i64 16, .int .i64 16, .int .i64 16, .int .i64 8, .int .i64 4, .int .i64 2, .int .i64 0, .int .i64 17, .int .i64 (-1)] 3)).heap.size = w1.heap.size + 1 := by simp
  replace kk1 := kk1.grown0 ga3
  replace h := h.grown ga3 (by omega) (fun q e => by cases e)
  replace o1 := o1.apart ga3 (fun q e => by cases e)
  replace o2 := o2.apart ga3 (fun q e => by cases e)
  replace bR := bR.keep (ga3.block _ bR.lt (fun e => by cases e))
  replace hB := hB.grown ga3 (by omega) (fun q e => by cases e)
  have z_4 := ga3.size
  clear ga3
  generalize w1.alloc _ = w3 at *
  generalize hgz4 : w1.heap.size = gz4 at *
  clear hgz4
  refine (among_any g _ _ _ l [16, 16, 16, 8, 4, 2, 0, 17, -1] w3 h (by omega) hg rl (by omega) (by omega) (by decide) (by decide) kk1 (by omega)).mono ?_; rintro q_ w5 ⟨x1, rfl, gg5, kk5⟩
  clear kk1
  replace h := h.grown gg5 (by omega) (fun q e => by injection e with e; omega)
  replace o1 := o1.apart gg5 (fun q e => by injection e with e; omega)
  replace o2 := o2.apart gg5 (fun q e => by injection e with e; omega)
  replace bR := bR.keep (gg5.block _ bR.lt (fun e => by injection e with e; omega))
  replace hB := hB.grown gg5 (by omega) (fun q e => by injection e with e; omega)
  have z_6 := gg5.size
  clear gg5
  clear rl
  have bR_z := bR.frozen
  have bR_l := bR.lt
  have bR_0 := bR.cell (j := 0) rfl
  have bR_1 := bR.cell (j := 1) rfl
  go_wp2_with fail
  clear bR_z bR_l bR_0 bR_1
  generalize hwz : World.setCell (World.setCell _ _ _) _ _ = wz_
  obtain rfl : wz_ = setL w5 (w.heap.size) 0 [.slice A1 k1 c1, .slice A2 k2 c2] := hwz.symm
  clear hwz
  replace hB := setL_below hB [.slice A1 k1 c1, .slice A2 k2 c2] (w.heap.size) 0 (Nat.le_refl _)
  replace o1 := o1.box bR (by decide) 0 [.slice A1 k1 c1, .slice A2 k2 c2]
  replace o2 := o2.box bR (by decide) 0 [.slice A1 k1 c1, .slice A2 k2 c2]
  have zS : (setL w5 (w.heap.size) 0 [.slice A1 k1 c1, .slice A2 k2 c2]).heap.size = w5.heap.size := setL_size _ _ _ _
  replace bR := bR.setAll [.slice A1 k1 c1, .slice A2 k2 c2] rfl
  generalize setL w5 _ 0 _ = wZ at *
  have u0_ := bR.cell (j := 0) rfl
  have u1_ := bR.cell (j := 1) rfl
  refine bodyPost_ret (by simp only [results, Tryz.results23]; simp [go_sem, u0_, u1_]; rfl) rfl ?_
  exact ⟨_, _, _, _, x1, rfl, by omega, by omega, o1.mono (by omega) (by omega), o2.mono (by omega) (by omega), hB⟩
set_option maxRecDepth 8000 in
set_option maxHeartbeats 2000000 in
theorem DrawWithdrawIrq_any (cv : Value) (l : List UInt8) (w : World) {lo hi : Nat} (h : Rd By.cells 1 w lo hi cv l) (hh : hi ≤ w.heap.size) :
    Calls Tryz.prog 29 #[cv] w fun e w' => ∃ vs vw, ∃ ls : List Sl, ∃ lw : List Wt, ∃ x : Int, e = .returned (.tuple #[.agg #[vs, vw], .int .i64 x]) ∧ ls.length ≤ 1048576 ∧ lw.length ≤ 1048576 ∧ Ow Sl.cells 3 76 w' w.heap.size w'.heap.size vs ls ∧ Ow Wt.cells 2 67 w' w.heap.size w'.heap.size vw lw ∧ Below w.heap.size w w' := by
  obtain ⟨Ac, nc, cc, rfl, _, _, _⟩ := h.form
  go_enter Tryz.func29, Tryz.ntmps29
  go_wp2_with fail
  have bR := Box.new w #[.slice none 0 0, .slice none 0 0] 27 rfl
  have hB := (Below.refl w.heap.size w).alloc (Nat.le_refl _) (.cells #[.slice none 0 0, .slice none 0 0] 27)
  have zr : (w.alloc (.cells #[.slice none 0 0, .slice none 0 0] 27)).heap.size = w.heap.size + 1 := by simp
  generalize w.alloc (.cells #[.slice none 0 0, .slice none 0 0] 27) = wR at *
  have bx := Box.new wR #[.slice Ac nc cc, .int .i64 0, .int .u64 0] 57 rfl
  have bl := (Below.refl wR.heap.size wR).alloc (Nat.le_refl _) (.cells #[.slice Ac nc cc, .int .i64 0, .int .u64 0] 57)
  replace bR := bR.below bl bR.lt
  replace hB := hB.alloc (by omega) (.cells #[.slice Ac nc cc, .int .i64 0, .int .u64 0] 57)
  have za : (wR.alloc (.cells #[.slice Ac nc cc, .int .i64 0, .int .u64 0] 57)).heap.size = wR.heap.size + 1 := by simp
  have hc : Cur (wR.alloc (.cells #[.slice Ac nc cc, .int .i64 0, .int .u64 0] 57)) wR.heap.size (.slice Ac nc cc) 0 := ⟨0, 0, Nat.le_refl _, Lib.hid (by unfold U64; omega), bx⟩
  have hg : wR.heap.size < lo ∨ hi ≤ wR.heap.size := .inr (by omega)
  replace h := h.below hB hh
  clear bx bl
  generalize wR.alloc _ = w0 at *
  generalize wR.heap.size = g at *
  rw [← zr]
  refine (queue_any g _ _ l w0 h (by omega) hg hc (by omega)).mono ?_; rintro q_ w1 ⟨v1, v2, l1, m1, rfl, d1, n1, n2, o1, o2, gg1, kk1⟩
  clear hc
  replace h := h.grown gg1 (by omega) (fun q e => by injection e with e; omega)
  replace bR := bR.keep (gg1.block _ bR.lt (fun e => by injection e with e; omega))
  replace hB := hB.grown gg1 (by omega) (fun q e => by injection e with e; omega)
  have z_2 := gg1.size
  clear gg1
  obtain ⟨A1, k1, c1, rfl, _, _, _⟩ := o1.rd.form
  obtain ⟨A2, k2, c2, rfl, _, _, _⟩ := o2.rd.form
  have bR_z := bR.frozen
  have bR_l := bR.lt
  have bR_0 := bR.cell (j := 0) rfl
  have bR_1 := bR.cell (j := 1) rfl
  go_wp2_with fail
  clear bR_z bR_l bR_0 bR_1
  rw [← zr]
  refine (irq_any g _ _ l w1 h (by omega) hg kk1 (by omega)).mono ?_; rintro q_ w3 ⟨x1, rfl, gg3, kk3⟩
  clear kk1
  replace h := h.grown gg3 (by omega) (fun q e => by injection e with e; omega)
  replace o1 := o1.apart gg3 (fun q e => by injection e with e; omega)
  replace o2 := o2.apart gg3 (fun q e => by injection e with e; omega)
  replace bR := bR.keep (gg3.block _ bR.lt (fun e => by injection e with e; omega))
  replace hB := hB.grown gg3 (by omega) (fun q e => by injection e with e; omega)
  have z_4 := gg3.size
  clear gg3
  have bR_z := bR.frozen
  have bR_l := bR.lt
  have bR_0 := bR.cell (j := 0) rfl
  have bR_1 := bR.cell (j := 1) rfl
  go_wp2_with fail
  clear bR_z bR_l bR_0 bR_1
  generalize hwz : World.setCell (World.setCell _ _ _) _ _ = wz_
  obtain rfl : wz_ = setL w3 (w.heap.size) 0 [.slice A1 k1 c1, .slice A2 k2 c2] := hwz.symm
  clear hwz
  replace hB := setL_below hB [.slice A1 k1 c1, .slice A2 k2 c2] (w.heap.size) 0 (Nat.le_refl _)
  replace o1 := o1.box bR (by decide) 0 [.slice A1 k1 c1, .slice A2 k2 c2]
  replace o2 := o2.box bR (by decide) 0 [.slice A1 k1 c1, .slice A2 k2 c2]
  have zS : (setL w3 (w.heap.size) 0 [.slice A1 k1 c1, .slice A2 k2 c2]).heap.size = w3.heap.size := setL_size _ _ _ _
  replace bR := bR.setAll [.slice A1 k1 c1, .slice A2 k2 c2] rfl
  generalize setL w3 _ 0 _ = wZ at *
  have u0_ := bR.cell (j := 0) rfl
  have u1_ := bR.cell (j := 1) rfl
  refine bodyPost_ret (by simp only [results, Tryz.results29]; simp [go_sem, u0_, u1_]; rfl) rfl ?_
  exact ⟨_, _, _, _, x1, rfl, by omega, by omega, o1.mono (by omega) (by omega), o2.mono (by omega) (by omega), hB⟩
set_option maxRecDepth 8000 in
set_option maxHeartbeats 4000000 in
theorem DrawEndQueue_any (cv : Value) (l : List UInt8) (w : World) {lo hi : Nat} (h : Rd By.cells 1 w lo hi cv l) (hh : hi ≤ w.heap.size) :
    Calls Tryz.prog 27 #[cv] w fun e w' => ∃ vs vw, ∃ ls : List Sl, ∃ lw : List Wt, ∃ x : Int, e = .returned (.tuple #[.agg #[vs, vw], .int .i64 x]) ∧ ls.length ≤ 1048576 ∧ lw.length ≤ 1048576 ∧ Ow Sl.cells 3 76 w' w.heap.size w'.heap.size vs ls ∧ Ow Wt.cells 2 67 w' w.heap.size w'.heap.size vw lw ∧ Below w.heap.size w w' := by
  obtain ⟨Ac, nc, cc, rfl, _, _, _⟩ := h.form
  go_enter Tryz.func27, Tryz.ntmps27
  go_wp2_with fail
  have bR := Box.new w #[.slice none 0 0, .slice none 0 0] 27 rfl
  have hB := (Below.refl w.heap.size w).alloc (Nat.le_refl _) (.cells #[.slice none 0 0, .slice none 0 0] 27)
  have zr : (w.alloc (.cells #[.slice none 0 0, .slice none 0 0] 27)).heap.size = w.heap.size + 1 := by simp
  generalize w.alloc (.cells #[.slice none 0 0, .slice none 0 0] 27) = wR at *
  have bx := Box.new wR #[.slice Ac nc cc, .int .i64 0, .int .u64 0] 57 rfl
  have bl := (Below.refl wR.heap.size wR).alloc (Nat.le_refl _) (.cells #[.slice Ac nc cc, .int .i64 0, .int .u64 0] 57)
  replace bR := bR.below bl bR.lt
  replace hB := hB.alloc (by omega) (.cells #[.slice Ac nc cc, .int .i64 0, .int .u64 0] 57)
  have za : (wR.alloc (.cells #[.slice Ac nc cc, .int .i64 0, .int .u64 0] 57)).heap.size = wR.heap.size + 1 := by simp
  have hc : Cur (wR.alloc (.cells #[.slice Ac nc cc, .int .i64 0, .int .u64 0] 57)) wR.heap.size (.slice Ac nc cc) 0 := ⟨0, 0, Nat.le_refl _, Lib.hid (by unfold U64; omega), bx⟩
  have hg : wR.heap.size < lo ∨ hi ≤ wR.heap.size := .inr (by omega)
  replace h := h.below hB hh
  clear bx bl
  generalize wR.alloc _ = w0 at *
  generalize wR.heap.size = g at *
  rw [← zr]
  refine (queue_any g _ _ l w0 h (by omega) hg hc (by omega)).mono ?_; rintro q_ w1 ⟨v1, v2, l1, m1, rfl, d1, n1, n2, o1, o2, gg1, kk1⟩
  clear hc
  replace h := h.grown gg1 (by omega) (fun q e => by injection e with e; omega)
  replace bR := bR.keep (gg1.block _ bR.lt (fun e => by injection e with e; omega))
  replace hB := hB.grown gg1 (by omega) (fun q e => by injection e with e; omega)
  have z_2 := gg1.size
  clear gg1
  obtain ⟨A1, k1, c1, rfl, _, _, _⟩ := o1.rd.form
  obtain ⟨A2, k2, c2, rfl, _, _, _⟩ := o2.rd.form
  have bR_z := bR.frozen
  have bR_l := bR.lt
  have bR_0 := bR.cell (j := 0) rfl
  have bR_1 := bR.cell (j := 1) rfl
  go_wp2_with fail
  clear bR_z bR_l bR_0 bR_1
  have bl := (Below.refl w1.heap.size w1).alloc (Nat.le_refl _) (.cells #[.slice A1 k1 c1, .slice A2 k2 c2] 27)
  have bQ := Box.new w1 #[.slice A1 k1 c1, .slice A2 k2 c2] 27 rfl
  have gl := grown_below bl
  clear bl
  replace kk1 := kk1.grown0 gl
  replace h := h.grown gl (by omega) (fun q e => by cases e)
  replace o1 := o1.apart gl (fun q e => by cases e)
  replace o2 := o2.apart gl (fun q e => by cases e)
  replace bR := bR.keep (gl.block _ bR.lt (fun e => by cases e))
  replace hB := hB.grown gl (by omega) (fun q e => by cases e)
  have z_3 := gl.size
  clear gl
  generalize w1.alloc _ = wq at *
  generalize hQq : w1.heap.size = gQ at *
  clear hQq
  refine (l8Active_dis _ l1 wq o1.rd (by omega) d1 (by omega)).mono ?_; rintro q_ w4 ⟨v3, rfl, r3, bb4⟩
  have gb4 := grown_below bb4
  clear bb4
  replace kk1 := kk1.grown0 gb4
  replace h := h.grown gb4 (by omega) (fun q e => by cases e)
  replace o1 := o1.apart gb4 (fun q e => by cases e)
  replace o2 := o2.apart gb4 (fun q e => by cases e)
  replace bR := bR.keep (gb4.block _ bR.lt (fun e => by cases e))
  replace bQ := bQ.keep (gb4.block _ bQ.lt (fun e => by cases e))
  replace hB := hB.grown gb4 (by omega) (fun q e => by cases e)
  have z_5 := gb4.size
  clear gb4
  obtain ⟨A3, n3, c3, rfl, H3, hnc3, hm3⟩ := r3.form
  have hn3 : n3 ≤ 5 := by have := accL_len Sl.isAct Sl.irq l1; rw [H3.out]; unfold Sl.active; omega
  clear H3
  rcases Nat.eq_zero_or_pos n3 with hn30 | hn30
  · subst hn30
    have bR_z := bR.frozen
    have bR_l := bR.lt
    have bR_0 := bR.cell (j := 0) rfl
    have bR_1 := bR.cell (j := 1) rfl
    have bQ_z := bQ.frozen
    have bQ_l := bQ.lt
    have bQ_0 := bQ.cell (j := 0) rfl
    have bQ_1 := bQ.cell (j := 1) rfl
    go_wp2_with fail
    clear bR_z bR_l bR_0 bR_1
    clear bQ_z bQ_l bQ_0 bQ_1
    have gd := grown_below (Below.refl w4.heap.size w4).drew
    replace kk1 := kk1.grown0 gd
    replace h := h.grown gd (by omega) (fun q e => by cases e)
    replace r3 := r3.grown gd (by omega) (fun q e => by cases e)
    replace o1 := o1.apart gd (fun q e => by cases e)
    replace o2 := o2.apart gd (fun q e => by cases e)
    replace bR := bR.keep (gd.block _ bR.lt (fun e => by cases e))
    replace bQ := bQ.keep (gd.block _ bQ.lt (fun e => by cases e))
    replace hB := hB.grown gd (by omega) (fun q e => by cases e)
    have z_6 := gd.size
    clear gd
    have cK := irq_any g _ _ l w4.drew h (by omega) hg kk1 (by omega)
    have bR_z := bR.frozen
    have bR_l := bR.lt
    have bR_0 := bR.cell (j := 0) rfl
    have bR_1 := bR.cell (j := 1) rfl
    have bQ_z := bQ.frozen
    have bQ_l := bQ.lt
    have bQ_0 := bQ.cell (j := 0) rfl
    have bQ_1 := bQ.cell (j := 1) rfl
    go_region_with (go_at_call 45; (try rw [← zr]); refine cK.mono ?_; rintro q_ wK ⟨xK, rfl, ggK, kkK⟩; (replace o1 := o1.apart ggK (fun q e => by injection e with e; omega)); (replace o2 := o2.apart ggK (fun q e => by injection e with e; omega)); (replace hB := hB.grown ggK (by omega) (fun q e => by injection e with e; omega)); (replace bR := bR.keep (ggK.block _ bR.lt (fun e => by injection e with e; omega))); (replace bQ := bQ.keep (ggK.block _ bQ.lt (fun e => by injection e with e; omega))); (have zK := ggK.size); (have bR_0 := bR.cell (j := 0) rfl); (have bR_1 := bR.cell (j := 1) rfl); (have bQ_0 := bQ.cell (j := 0) rfl); (have bQ_1 := bQ.cell (j := 1) rfl); (have bR_z := bR.frozen); (have bQ_z := bQ.frozen); (have bR_l := bR.lt); (have bQ_l := bQ.lt))
    all_goals
      go_wp2_with fail
      generalize hwz : World.setCell (World.setCell _ _ _) _ _ = wz_
      obtain rfl : wz_ = setL wK (w.heap.size) 0 [.slice A1 k1 c1, .slice A2 k2 c2] := hwz.symm
      clear hwz
      replace hB := setL_below hB [.slice A1 k1 c1, .slice A2 k2 c2] (w.heap.size) 0 (Nat.le_refl _)
      replace o1 := o1.box bR (by decide) 0 [.slice A1 k1 c1, .slice A2 k2 c2]
      replace o2 := o2.box bR (by decide) 0 [.slice A1 k1 c1, .slice A2 k2 c2]
      have zS : (setL wK (w.heap.size) 0 [.slice A1 k1 c1, .slice A2 k2 c2]).heap.size = wK.heap.size := setL_size _ _ _ _
      replace bR := bR.setAll [.slice A1 k1 c1, .slice A2 k2 c2] rfl
      generalize setL wK _ 0 _ = wZ at *
      have u0_ := bR.cell (j := 0) rfl
      have u1_ := bR.cell (j := 1) rfl
      refine bodyPost_ret (by simp only [results, Tryz.results27]; simp [go_sem, u0_, u1_]; rfl) rfl ?_
      exact ⟨_, _, _, _, xK, rfl, by omega, by omega, o1.mono (by omega) (by omega), o2.mono (by omega) (by omega), hB⟩
  · have hnd : decide ((0 : Int) < (n3 : Int)) = true := decide_eq_true (by omega)
    have bR_z := bR.frozen
    have bR_l := bR.lt
    have bR_0 := bR.cell (j := 0) rfl
    have bR_1 := bR.cell (j := 1) rfl
    have bQ_z := bQ.frozen
    have bQ_l := bQ.lt
    have bQ_0 := bQ.cell (j := 0) rfl
    have bQ_1 := bQ.cell (j := 1) rfl
    go_wp2_with fail
    clear bR_z bR_l bR_0 bR_1
    clear bQ_z bQ_l bQ_0 bQ_1
    rw [← zr]
    refine (one_any g _ _ l 2 w4 h (by omega) hg kk1 (by omega) (by omega)).mono ?_; rintro q_ w6 ⟨x4, rfl, gg6, kk6⟩
    clear kk1
    replace h := h.grown gg6 (by omega) (fun q e => by injection e with e; omega)
    replace r3 := r3.grown gg6 (by omega) (fun q e => by injection e with e; omega)
    replace o1 := o1.apart gg6 (fun q e => by injection e with e; omega)
    replace o2 := o2.apart gg6 (fun q e => by injection e with e; omega)
    replace bR := bR.keep (gg6.block _ bR.lt (fun e => by injection e with e; omega))
    replace bQ := bQ.keep (gg6.block _ bQ.lt (fun e => by injection e with e; omega))
    replace hB := hB.grown gg6 (by omega) (fun q e => by injection e with e; omega)
    have z_7 := gg6.size
    clear gg6
    cases x4
    · have bR_z := bR.frozen
      have bR_l := bR.lt
      have bR_0 := bR.cell (j := 0) rfl
      have bR_1 := bR.cell (j := 1) rfl
      have bQ_z := bQ.frozen
      have bQ_l := bQ.lt
      have bQ_0 := bQ.cell (j := 0) rfl
      have bQ_1 := bQ.cell (j := 1) rfl
      go_wp2_with fail
      clear bR_z bR_l bR_0 bR_1
      clear bQ_z bQ_l bQ_0 bQ_1
      have gd := grown_below (Below.refl w6.heap.size w6).drew
      replace kk6 := kk6.grown0 gd
      replace h := h.grown gd (by omega) (fun q e => by cases e)
      replace r3 := r3.grown gd (by omega) (fun q e => by cases e)
      replace o1 := o1.apart gd (fun q e => by cases e)
      replace o2 := o2.apart gd (fun q e => by cases e)
      replace bR := bR.keep (gd.block _ bR.lt (fun e => by cases e))
      replace bQ := bQ.keep (gd.block _ bQ.lt (fun e => by cases e))
      replace hB := hB.grown gd (by omega) (fun q e => by cases e)
      have z_8 := gd.size
      clear gd
      have cK := irq_any g _ _ l w6.drew h (by omega) hg kk6 (by omega)
      have bR_z := bR.frozen
      have bR_l := bR.lt
      have bR_0 := bR.cell (j := 0) rfl
      have bR_1 := bR.cell (j := 1) rfl
      have bQ_z := bQ.frozen
      have bQ_l := bQ.lt
      have bQ_0 := bQ.cell (j := 0) rfl
      have bQ_1 := bQ.cell (j := 1) rfl
      go_region_with (go_at_call 45; (try rw [← zr]); refine cK.mono ?_; rintro q_ wK ⟨xK, rfl, ggK, kkK⟩; (replace o1 := o1.apart ggK (fun q e => by injection e with e; omega)); (replace o2 := o2.apart ggK (fun q e => by injection e with e; omega)); (replace hB := hB.grown ggK (by omega) (fun q e => by injection e with e; omega)); (replace bR := bR.keep (ggK.block _ bR.lt (fun e => by injection e with e; omega))); (replace bQ := bQ.keep (ggK.block _ bQ.lt (fun e => by injection e with e; omega))); (have zK := ggK.size); (have bR_0 := bR.cell (j := 0) rfl); (have bR_1 := bR.cell (j := 1) rfl); (have bQ_0 := bQ.cell (j := 0) rfl); (have bQ_1 := bQ.cell (j := 1) rfl); (have bR_z := bR.frozen); (have bQ_z := bQ.frozen); (have bR_l := bR.lt); (have bQ_l := bQ.lt))
      all_goals
        go_wp2_with fail
        generalize hwz : World.setCell (World.setCell _ _ _) _ _ = wz_
        obtain rfl : wz_ = setL wK (w.heap.size) 0 [.slice A1 k1 c1, .slice A2 k2 c2] := hwz.symm
        clear hwz
        replace hB := setL_below hB [.slice A1 k1 c1, .slice A2 k2 c2] (w.heap.size) 0 (Nat.le_refl _)
        replace o1 := o1.box bR (by decide) 0 [.slice A1 k1 c1, .slice A2 k2 c2]
        replace o2 := o2.box bR (by decide) 0 [.slice A1 k1 c1, .slice A2 k2 c2]
        have zS : (setL wK (w.heap.size) 0 [.slice A1 k1 c1, .slice A2 k2 c2]).heap.size = wK.heap.size := setL_size _ _ _ _
        replace bR := bR.setAll [.slice A1 k1 c1, .slice A2 k2 c2] rfl
        generalize setL wK _ 0 _ = wZ at *
        have u0_ := bR.cell (j := 0) rfl
        have u1_ := bR.cell (j := 1) rfl
        refine bodyPost_ret (by simp only [results, Tryz.results27]; simp [go_sem, u0_, u1_]; rfl) rfl ?_
        exact ⟨_, _, _, _, xK, rfl, by omega, by omega, o1.mono (by omega) (by omega), o2.mono (by omega) (by omega), hB⟩
    · have bR_z := bR.frozen
      have bR_l := bR.lt
      have bR_0 := bR.cell (j := 0) rfl
      have bR_1 := bR.cell (j := 1) rfl
      have bQ_z := bQ.frozen
      have bQ_l := bQ.lt
      have bQ_0 := bQ.cell (j := 0) rfl
      have bQ_1 := bQ.cell (j := 1) rfl
      go_wp2_with fail
      clear bR_z bR_l bR_0 bR_1
      clear bQ_z bQ_l bQ_0 bQ_1
      obtain ⟨b3, off3, y3, rfl, _, hb31, hb32, _⟩ := Nm.get r3 hn30 (Below.refl w6.heap.size w6) (by omega)
      have hcell : ∀ j : Nat, j < n3 → ∃ y : Int, w6.drew.cell? ⟨b3, off3 + j, none⟩ = some (.int .i64 y) := fun j hj => by
        obtain ⟨b4, off4, y, hAA, _, _, _, f0⟩ := Nm.get r3 hj ((Below.refl w6.heap.size w6).drew) (by omega)
        injection hAA with hAA
        injection hAA with e1 e2
        subst e1; subst e2
        exact ⟨y, f0⟩
      have HCell := Lib.hid hcell
      clear hcell
      have gd := grown_below (Below.refl w6.heap.size w6).drew
      replace kk6 := kk6.grown0 gd
      replace h := h.grown gd (by omega) (fun q e => by cases e)
      replace r3 := r3.grown gd (by omega) (fun q e => by cases e)
      replace o1 := o1.apart gd (fun q e => by cases e)
      replace o2 := o2.apart gd (fun q e => by cases e)
      replace bR := bR.keep (gd.block _ bR.lt (fun e => by cases e))
      replace bQ := bQ.keep (gd.block _ bQ.lt (fun e => by cases e))
      replace hB := hB.grown gd (by omega) (fun q e => by cases e)
      have z_8 := gd.size
      clear gd
      have cK := pick_any g _ _ l ((n3 : Int)) w6.drew h (by omega) hg kk6 (by omega) (by omega)
      have bR_z := bR.frozen
      have bR_l := bR.lt
      have bR_0 := bR.cell (j := 0) rfl
      have bR_1 := bR.cell (j := 1) rfl
      have bQ_z := bQ.frozen
      have bQ_l := bQ.lt
      have bQ_0 := bQ.cell (j := 0) rfl
      have bQ_1 := bQ.cell (j := 1) rfl
      go_region_with (go_at_call 56; (try rw [← zr]); refine cK.mono ?_; rintro q_ wK ⟨xK, rfl, xK0, xK1, ggK, kkK⟩; (obtain ⟨jK, rfl⟩ : ∃ j : Nat, xK = j := ⟨xK.toNat, by omega⟩); (have hjK : jK < n3 := by omega); (have hjKi : (jK : Int) < (n3 : Int) := by omega); (obtain ⟨yK, fK⟩ := HCell.out jK hjK); (replace fK := ggK.cell (a := ⟨b3, off3 + jK, none⟩) fK (by intro e; injection e with e; simp at e; omega)); (clear xK0 xK1); (replace o1 := o1.apart ggK (fun q e => by injection e with e; omega)); (replace o2 := o2.apart ggK (fun q e => by injection e with e; omega)); (replace hB := hB.grown ggK (by omega) (fun q e => by injection e with e; omega)); (replace bR := bR.keep (ggK.block _ bR.lt (fun e => by injection e with e; omega))); (replace bQ := bQ.keep (ggK.block _ bQ.lt (fun e => by injection e with e; omega))); (have zK := ggK.size); (have bR_0 := bR.cell (j := 0) rfl); (have bR_1 := bR.cell (j := 1) rfl); (have bQ_0 := bQ.cell (j := 0) rfl); (have bQ_1 := bQ.cell (j := 1) rfl); (have bR_z := bR.frozen); (have bQ_z := bQ.frozen); (have bR_l := bR.lt); (have bQ_l := bQ.lt))
      all_goals
        go_wp2_with fail
        generalize hwz : World.setCell (World.setCell _ _ _) _ _ = wz_
        obtain rfl : wz_ = setL wK (w.heap.size) 0 [.slice A1 k1 c1, .slice A2 k2 c2] := hwz.symm
        clear hwz
        replace hB := setL_below hB [.slice A1 k1 c1, .slice A2 k2 c2] (w.heap.size) 0 (Nat.le_refl _)
        replace o1 := o1.box bR (by decide) 0 [.slice A1 k1 c1, .slice A2 k2 c2]
        replace o2 := o2.box bR (by decide) 0 [.slice A1 k1 c1, .slice A2 k2 c2]
        have zS : (setL wK (w.heap.size) 0 [.slice A1 k1 c1, .slice A2 k2 c2]).heap.size = wK.heap.size := setL_size _ _ _ _
        replace bR := bR.setAll [.slice A1 k1 c1, .slice A2 k2 c2] rfl
        generalize setL wK _ 0 _ = wZ at *
        have u0_ := bR.cell (j := 0) rfl
        have u1_ := bR.cell (j := 1) rfl
        refine bodyPost_ret (by simp only [results, Tryz.results27]; simp [go_sem, u0_, u1_]; rfl) rfl ?_
        exact ⟨_, _, _, _, yK, rfl, by omega, by omega, o1.mono (by omega) (by omega), o2.mono (by omega) (by omega), hB⟩
end Go.Proofs.YtfpaafmckeeecaaGreat

/- A law's own comparison of two lists that read the same: it says so. No condition. -/
namespace Go.Proofs.YtfpaafmckeeecaaGreat
open Go.RowKit Go.ChangeShapes Go.WideShapes Go.Deep

theorem Sl.v_same (v1 v2 : Value) (l : List Sl) (w : World) {lo1 hi1 lo2 hi2 : Nat} (h1 : Rd Sl.cells 3 w lo1 hi1 v1 l) (h2 : Rd Sl.cells 3 w lo2 hi2 v2 l) (hh1 : hi1 ≤ w.heap.size) (hh2 : hi2 ≤ w.heap.size) :
    Calls Tryz.prog 53 #[v1, v2] w fun e w' => e = .returned (.bool true) ∧ Below w.heap.size w w' := by
  obtain ⟨A, n, c, rfl, H, hc, hm⟩ := h1.form
  obtain ⟨A2, n2, c2, rfl, H2, hc2, hm2⟩ := h2.form
  obtain rfl : n = n2 := by rw [H.out, H2.out]
  have hnd : ((n : Int) != (n : Int)) = false := by simp
  clear H H2
  go_enter Tryz.func53, Tryz.ntmps53
  go_wp2_with fail
  go_loopw [5] (fun i wr => ∃ k : Nat, k ≤ n ∧ i = .int .i64 k ∧ Below w.heap.size w wr) (fun i _ => n - (intOf i).toNat)
  case atStart => exact ⟨0, Nat.zero_le _, rfl, Below.refl _ _⟩
  case round =>
    obtain ⟨k, hk, rfl, hb⟩ := hrel
    by_cases hlt : k < n
    · obtain ⟨b, off, t, rfl, hx, _, _, f0, f1, f2⟩ := Sl.get h1 hlt hb hh1
      obtain ⟨b2, off2, t2, rfl, hy, _, _, g0, g1, g2⟩ := Sl.get h2 hlt hb hh2
      obtain rfl := Option.some.inj (hx.out.symm.trans hy.out)
      have hki : (k : Int) < (n : Int) := by omega
      clear hx hy
      go_wp2_with fail
      go_quiet (fail)
      go_wp2_with fail
      go_roundw
      case rel => exact ⟨k + 1, by omega, by go_num, below_drewN hb _⟩
      case measure => simp [intOf]; omega
    · go_wp2_with fail
      go_ret
      exact ⟨rfl, hb⟩

end Go.Proofs.YtfpaafmckeeecaaGreat

/- A law's own comparison of two lists that read the same: it says so. No condition. -/
namespace Go.Proofs.YtfpaafmckeeecaaGreat
open Go.RowKit Go.ChangeShapes Go.WideShapes Go.Deep

theorem Wt.v_same (v1 v2 : Value) (l : List Wt) (w : World) {lo1 hi1 lo2 hi2 : Nat} (h1 : Rd Wt.cells 2 w lo1 hi1 v1 l) (h2 : Rd Wt.cells 2 w lo2 hi2 v2 l) (hh1 : hi1 ≤ w.heap.size) (hh2 : hi2 ≤ w.heap.size) :
    Calls Tryz.prog 54 #[v1, v2] w fun e w' => e = .returned (.bool true) ∧ Below w.heap.size w w' := by
  obtain ⟨A, n, c, rfl, H, hc, hm⟩ := h1.form
  obtain ⟨A2, n2, c2, rfl, H2, hc2, hm2⟩ := h2.form
  obtain rfl : n = n2 := by rw [H.out, H2.out]
  have hnd : ((n : Int) != (n : Int)) = false := by simp
  clear H H2
  go_enter Tryz.func54, Tryz.ntmps54
  go_wp2_with fail
  go_loopw [5] (fun i wr => ∃ k : Nat, k ≤ n ∧ i = .int .i64 k ∧ Below w.heap.size w wr) (fun i _ => n - (intOf i).toNat)
  case atStart => exact ⟨0, Nat.zero_le _, rfl, Below.refl _ _⟩
  case round =>
    obtain ⟨k, hk, rfl, hb⟩ := hrel
    by_cases hlt : k < n
    · obtain ⟨b, off, t, rfl, hx, _, _, f0, f1⟩ := Wt.get h1 hlt hb hh1
      obtain ⟨b2, off2, t2, rfl, hy, _, _, g0, g1⟩ := Wt.get h2 hlt hb hh2
      obtain rfl := Option.some.inj (hx.out.symm.trans hy.out)
      have hki : (k : Int) < (n : Int) := by omega
      clear hx hy
      go_wp2_with fail
      go_quiet (fail)
      go_wp2_with fail
      go_roundw
      case rel => exact ⟨k + 1, by omega, by go_num, below_drewN hb _⟩
      case measure => simp [intOf]; omega
    · go_wp2_with fail
      go_ret
      exact ⟨rfl, hb⟩

end Go.Proofs.YtfpaafmckeeecaaGreat

/- The plain laws' own helpers over numbers: whether two lists that read the same are the same, whether a number is in a list, whether a code is long. No condition. -/
namespace Go.Proofs.YtfpaafmckeeecaaGreat
open Go.RowKit Go.ChangeShapes Go.WideShapes Go.Deep

theorem vInts_same (v1 v2 : Value) (l : List Int) (w : World) {lo1 hi1 lo2 hi2 : Nat} (h1 : Rd Nm.cells 1 w lo1 hi1 v1 l) (h2 : Rd Nm.cells 1 w lo2 hi2 v2 l) (hh1 : hi1 ≤ w.heap.size) (hh2 : hi2 ≤ w.heap.size) :
    Calls Tryz.prog 9 #[v1, v2] w fun e w' => e = .returned (.bool true) ∧ Below w.heap.size w w' := by
  obtain ⟨A, n, c, rfl, H, hc, hm⟩ := h1.form
  obtain ⟨A2, n2, c2, rfl, H2, hc2, hm2⟩ := h2.form
  obtain rfl : n = n2 := by rw [H.out, H2.out]
  have hnd : ((n : Int) != (n : Int)) = false := by simp
  clear H H2
  go_enter Tryz.func9, Tryz.ntmps9
  go_wp2_with fail
  go_loopw [5] (fun i wr => ∃ k : Nat, k ≤ n ∧ i = .int .i64 k ∧ Below w.heap.size w wr) (fun i _ => n - (intOf i).toNat)
  case atStart => exact ⟨0, Nat.zero_le _, rfl, Below.refl _ _⟩
  case round =>
    obtain ⟨k, hk, rfl, hb⟩ := hrel
    by_cases hlt : k < n
    · obtain ⟨b, off, t, rfl, hx, _, _, f0⟩ := Nm.get h1 hlt hb hh1
      obtain ⟨b2, off2, t2, rfl, hy, _, _, g0⟩ := Nm.get h2 hlt hb hh2
      obtain rfl := Option.some.inj (hx.out.symm.trans hy.out)
      have hki : (k : Int) < (n : Int) := by omega
      clear hx hy
      go_wp2_with fail
      go_quiet (fail)
      go_wp2_with fail
      go_roundw
      case rel => exact ⟨k + 1, by omega, by go_num, below_drewN hb _⟩
      case measure => simp [intOf]; omega
    · go_wp2_with fail
      go_ret
      exact ⟨rfl, hb⟩
theorem vHas_any (v : Value) (l : List Int) (x : Int) (w : World) {lo hi : Nat} (h : Rd Nm.cells 1 w lo hi v l) (hh : hi ≤ w.heap.size) :
    Calls Tryz.prog 15 #[v, .int .i64 x] w fun e w' => e = .returned (.bool (l.contains x)) ∧ w = w' := by
  obtain ⟨A, n, c, rfl, H, hc, hm⟩ := h.form
  go_enter Tryz.func15, Tryz.ntmps15
  go_wp2_with fail
  go_loop [5] (fun j => ∃ m : Nat, m ≤ n ∧ j = .int .i64 m ∧ (l.take m).contains x = false) (fun j => n - (intOf j).toNat)
  case atStart => exact ⟨0, Nat.zero_le _, rfl, by simp⟩
  case round =>
    obtain ⟨m, hk, rfl, hs⟩ := hrel
    have HS := Lib.hid hs
    clear hs
    by_cases hlt : m < n
    · obtain ⟨b, off, y, rfl, hy, _, hbl, f0⟩ := Nm.get h hlt (Below.refl w.heap.size w) hh
      by_cases hxy : y = x
      · have HF := Lib.hid (show l.contains x = true from by rw [List.contains_iff_mem]; rw [← hxy]; exact List.mem_of_getElem? hy.out)
        rw [hxy] at f0
        clear hxy
        go_wp2_with fail
        go_ret
        have := HF.out
        rw [List.contains_eq_mem] at this
        exact ⟨ret_bool this.symm, rfl⟩
      · have HF := Lib.hid (show (l.take (m + 1)).contains x = false from by
          rw [List.take_add_one, hy.out]
          have := HS.out
          simp only [List.contains_eq_mem, decide_eq_false_iff_not] at this ⊢
          simp [this, Ne.symm hxy])
        go_wp2_with fail
        go_round
        case rel => exact ⟨m + 1, by omega, by go_num, HF.out⟩
        case measure => simp [intOf]; omega
    · go_wp2_with fail
      go_ret
      have := HS.out
      rw [List.take_of_length_le (by rw [← H.out]; omega), List.contains_eq_mem] at this
      exact ⟨ret_bool this.symm, rfl⟩
theorem vBig_any (v : Value) (l : List UInt8) (w : World) {lo hi : Nat} (h : Rd By.cells 1 w lo hi v l) : Calls Tryz.prog 5 #[v] w fun e w' => e = .returned (.bool (decide (65536 < l.length))) ∧ w = w' := by
  obtain ⟨A, n, c, rfl, H, hc, hm⟩ := h.form
  have HN := H
  go_enter Tryz.func5, Tryz.ntmps5
  go_wp2_with fail
  go_ret
  exact ⟨ret_bool (by rw [← HN.out]; apply decide_eq_decide.2; omega), rfl⟩

end Go.Proofs.YtfpaafmckeeecaaGreat

/- The plain laws' comparisons of queues and interfaces that read the same: they say so. No condition. -/
namespace Go.Proofs.YtfpaafmckeeecaaGreat
open Go.RowKit Go.ChangeShapes Go.WideShapes Go.Deep

set_option maxHeartbeats 1000000 in
theorem vQueue_same (a1 a2 b1 b2 : Value) (ls : List Sl) (lw : List Wt) (w : World) {l1 h1 l2 h2 l3 h3 l4 h4 : Nat} (k1 : Rd Sl.cells 3 w l1 h1 a1 ls) (k2 : Rd Wt.cells 2 w l2 h2 a2 lw) (k3 : Rd Sl.cells 3 w l3 h3 b1 ls) (k4 : Rd Wt.cells 2 w l4 h4 b2 lw)
    (z1 : h1 ≤ w.heap.size) (z2 : h2 ≤ w.heap.size) (z3 : h3 ≤ w.heap.size) (z4 : h4 ≤ w.heap.size) :
    Calls Tryz.prog 19 #[.agg #[a1, a2], .agg #[b1, b2]] w fun e w' => e = .returned (.bool true) ∧ Below w.heap.size w w' := by
  have b0 : Below w.heap.size w ((w.alloc (.cells #[a1, a2] 27)).alloc (.cells #[b1, b2] 27)) := ((Below.refl w.heap.size w).alloc (Nat.le_refl _) _).alloc (by simp) _
  have z0 : ((w.alloc (.cells #[a1, a2] 27)).alloc (.cells #[b1, b2] 27)).heap.size = w.heap.size + 2 := by simp
  have e0 : ((w.alloc (.cells #[a1, a2] 27)).alloc (.cells #[b1, b2] 27)).cell? ⟨w.heap.size, 1, none⟩ = some a2 := by simp
  have e1 : ((w.alloc (.cells #[a1, a2] 27)).alloc (.cells #[b1, b2] 27)).cell? ⟨w.heap.size + 1, 1, none⟩ = some b2 := by simp
  have c1 := Sl.v_same a1 b1 ls _ (k1.below b0 z1) (k3.below b0 z3) (by omega) (by omega)
  have k2' := k2.below b0 z2
  have k4' := k4.below b0 z4
  clear k1 k2 k3 k4
  go_enter Tryz.func19, Tryz.ntmps19
  go_wp2_with fail
  generalize (w.alloc _).alloc _ = w0 at *
  refine c1.mono ?_; rintro e w1 ⟨rfl, b1⟩
  replace e0 := (b1.cell (p := ⟨w.heap.size, 1, none⟩) (by show w.heap.size < _; omega)).trans e0
  replace e1 := (b1.cell (p := ⟨w.heap.size + 1, 1, none⟩) (by show w.heap.size + 1 < _; omega)).trans e1
  have zz := b1.size
  have c2 := Wt.v_same a2 b2 lw w1 (k2'.below b1 (by omega)) (k4'.below b1 (by omega)) (by omega) (by omega)
  go_wp2_with fail
  refine c2.mono ?_; rintro e w2 ⟨rfl, b2⟩
  go_wp2_with fail
  go_ret
  exact ⟨rfl, b0.trans ((b1.mono (by omega)).trans (b2.mono (by omega)))⟩


end Go.Proofs.YtfpaafmckeeecaaGreat

/- All that is pending, in order: sorting gives what inserting one by one gives. No condition. -/
namespace Go.Proofs.YtfpaafmckeeecaaGreat

theorem Wt.pos_before {x : Wt} : ∀ {l : List Wt} {j : Nat} {y : Wt}, j < Wt.pos x l → l[j]? = some y → y.lt x = true
  | [], _, _, h, _ => by simp [Wt.pos] at h
  | z :: l, j, y, h, hy => by
    rw [Wt.pos] at h
    split at h
    · rename_i hz
      cases j with
      | zero => simp at hy; subst hy; exact hz
      | succ j => exact Wt.pos_before (l := l) (j := j) (by omega) (by simpa using hy)
    · omega
theorem Wt.pos_at {x : Wt} : ∀ {l : List Wt} {y : Wt}, l[Wt.pos x l]? = some y → y.lt x = false
  | [], _, h => by simp at h
  | z :: l, y, h => by
    rw [Wt.pos] at h
    split at h
    · exact Wt.pos_at (l := l) (by simpa using h)
    · rename_i hz
      simp at h; subst h
      simpa using hz
theorem insK_ins {l : List Wt} {x : Wt} (hs : l.Pairwise (fun a b => a.lt b = true)) (hn : ∀ y ∈ l, y.irq ≠ x.irq) : insK Wt.lt l x = Wt.ins l x := by
  have hb : bk Wt.lt x l = Wt.pos x l := by
    refine bk_eq x l _ (Wt.pos_le x l) (fun j y hj hy => ?_) (fun j y hj hy => ?_)
    · have hlt := (List.getElem?_eq_some_iff.1 hy).1
      have hp : l[Wt.pos x l]? = some l[Wt.pos x l] := List.getElem?_eq_getElem (by omega)
      have h1 := Wt.lt_other (x := l[Wt.pos x l]) (y := x) (by rw [Wt.pos_at hp]; simp) (hn _ (List.getElem_mem _))
      by_cases hjp : j = Wt.pos x l
      · subst hjp
        rw [hp] at hy; injection hy with hy; rw [← hy]; exact h1
      · have h2 := (List.pairwise_iff_getElem.1 hs) (Wt.pos x l) j (by omega) hlt (by omega)
        obtain ⟨_, e⟩ := List.getElem?_eq_some_iff.1 hy
        rw [e] at h2
        exact Wt.lt_trans h1 h2
    · exact Wt.lt_asymm (Wt.pos_before (x := x) (j := j) (by omega) hy)
  rw [insK, hb, Wt.ins]
theorem sortK_sorted {l : List Wt} (hs : l.Pairwise (fun a b => a.lt b = true)) : sortK Wt.lt l = l := by
  have key : ∀ k, k ≤ l.length → sortK Wt.lt (l.take k) = l.take k := by
    intro k
    induction k with
    | zero => intro _; simp [sortK]
    | succ k ih =>
      intro hk
      have hx : l[k]? = some l[k] := List.getElem?_eq_getElem (by omega)
      rw [sortK_pre hx, ih (by omega), List.take_add_one, hx]
      have hb : bk Wt.lt l[k] (l.take k) = (l.take k).length := by
        refine bk_eq _ _ _ (Nat.le_refl _) (fun j y hj hy => ?_) (fun j y hj hy => ?_)
        · rw [List.getElem?_eq_none hj] at hy; cases hy
        · rw [List.getElem?_take] at hy
          split at hy
          · rename_i hjk
            have h2 := (List.pairwise_iff_getElem.1 hs) j k (by omega) (by omega) hjk
            obtain ⟨_, e⟩ := List.getElem?_eq_some_iff.1 hy
            rw [e] at h2
            exact Wt.lt_asymm h2
          · cases hy
      rw [insK, hb, List.take_length, List.drop_length]
      rfl
  have := key l.length (Nat.le_refl _)
  rwa [List.take_length] at this
theorem fold_ins : ∀ (xs l : List Wt), l.Pairwise (fun a b => a.lt b = true) → l.Pairwise (fun a b => a.irq ≠ b.irq) → xs.Pairwise (fun a b => a.irq ≠ b.irq) → (∀ x ∈ xs, ∀ y ∈ l, y.irq ≠ x.irq) →
    xs.foldl (insK Wt.lt) l = xs.foldl Wt.ins l ∧ (xs.foldl Wt.ins l).Pairwise (fun a b => a.lt b = true) ∧ (xs.foldl Wt.ins l).Pairwise (fun a b => a.irq ≠ b.irq)
  | [], l, h1, h2, _, _ => ⟨rfl, h1, h2⟩
  | x :: xs, l, h1, h2, h3, h4 => by
    rw [List.pairwise_cons] at h3
    have hx := h4 x (by simp)
    rw [List.foldl_cons, List.foldl_cons, insK_ins h1 hx]
    exact fold_ins xs (Wt.ins l x) (Wt.ins_sorted h1 hx) (Wt.ins_irqs h2 hx) h3.2 (fun y hy z hz => by
      rcases Wt.ins_mem.1 hz with rfl | hz
      · exact h3.1 y hy
      · exact h4 y (by simp [hy]) z hz)
theorem fold_mem {y : Wt} : ∀ (xs l : List Wt), y ∈ xs.foldl Wt.ins l ↔ y ∈ xs ∨ y ∈ l
  | [], l => by simp
  | x :: xs, l => by
    rw [List.foldl_cons, fold_mem xs, Wt.ins_mem, List.mem_cons]
    constructor
    · rintro (h | h | h)
      · exact .inl (.inr h)
      · exact .inl (.inl h)
      · exact .inr h
    · rintro ((h | h) | h)
      · exact .inr (.inl h)
      · exact .inl h
      · exact .inr (.inr h)
theorem Sl.isPend_used {s : Sl} (h : Sl.isPend s = true) : ¬ s.state = 0 := by
  intro e; simp [Sl.isPend, e] at h
theorem Sl.pends_mem {ls : List Sl} {y : Wt} : y ∈ Sl.pends ls ↔ ∃ s ∈ ls, Sl.isPend s = true ∧ s.wt = y := by
  simp [Sl.pends, and_assoc]
theorem Sl.pends_irqs {ls : List Sl} (hg : Sl.good ls = true) : (Sl.pends ls).Pairwise (fun a b => a.irq ≠ b.irq) := by
  rw [Sl.pends, List.pairwise_map, List.pairwise_filter, List.pairwise_iff_getElem]
  intro i j hi hj hij h1 h2
  exact Sl.good_two hg (by omega) (List.getElem?_eq_getElem hi) (List.getElem?_eq_getElem hj) (Sl.isPend_used h1) (Sl.isPend_used h2)
theorem Qu.all_facts {ls : List Sl} {lw : List Wt} (hp : Qu.parts ls lw = true) : sortK Wt.lt (lw ++ Sl.pends ls) = Qu.all ls lw ∧ (Qu.all ls lw).Pairwise (fun a b => a.lt b = true) ∧ (Qu.all ls lw).Pairwise (fun a b => a.irq ≠ b.irq) := by
  obtain ⟨hg, _, h2, h3, h4⟩ := Qu.parts_iff.1 hp
  have h := fold_ins (Sl.pends ls) lw h3 h4 (Sl.pends_irqs hg) (fun x hx y hy => by
    obtain ⟨s, hs, hps, rfl⟩ := Sl.pends_mem.1 hx
    exact (h2 y hy s hs (Sl.isPend_used hps)).symm)
  refine ⟨?_, h.2⟩
  rw [sortK, List.foldl_append]
  change (Sl.pends ls).foldl (insK Wt.lt) (sortK Wt.lt lw) = _
  rw [sortK_sorted h3]
  exact h.1
theorem Qu.all_mem {ls : List Sl} {lw : List Wt} {y : Wt} : y ∈ Qu.all ls lw ↔ y ∈ lw ∨ ∃ s ∈ ls, Sl.isPend s = true ∧ s.wt = y := by
  rw [Qu.all, fold_mem, Sl.pends_mem]; exact or_comm

end Go.Proofs.YtfpaafmckeeecaaGreat

/- Processor interfaces in plain terms: when one is valid, and that what is done to it keeps it so. No condition. -/
namespace Go.Proofs.YtfpaafmckeeecaaGreat

theorem set_self {α : Type} {l : List α} {k : Nat} {s : α} (h : l[k]? = some s) : l.set k s = l := by
  apply List.ext_getElem?
  intro j
  rw [List.getElem?_set]
  split
  · rename_i e
    subst e
    rw [if_pos (List.getElem?_eq_some_iff.1 h).1, h]
  · rfl

/-! ### validity -/
def Sl.lvl (ls : List Sl) (i : Int) : Int := (Sl.at_ ls (Sl.ix ls i)).prio
/-! ### in words -/
/-! ### raising -/
/-! ### the running priority, taking -/
def Fa.run (st : List Int) (ls : List Sl) : Int := match st.getLast? with
  | some i => Sl.lvl ls i
  | none => 16
/-! ### leaving -/
end Go.Proofs.YtfpaafmckeeecaaGreat

/- Queues in plain terms, more: what is pending, in which order it is served. No condition. -/
namespace Go.Proofs.YtfpaafmckeeecaaGreat

/-! ### lists in strict order of urgency are told by their members -/
theorem lt_sub : ∀ (b a : List Wt), a.Pairwise (fun x y => x.lt y = true) → b.Pairwise (fun x y => x.lt y = true) → (∀ x ∈ a, x ∈ b) → a.Sublist b
  | [], a, _, _, h => by
    cases a with
    | nil => exact List.Sublist.refl _
    | cons x a => exact absurd (h x (by simp)) (by simp)
  | y :: b, [], _, _, _ => List.nil_sublist _
  | y :: b, x :: a, ha, hb, h => by
    rw [List.pairwise_cons] at ha hb
    by_cases e : x = y
    · subst e
      refine List.Sublist.cons_cons x (lt_sub b a ha.2 hb.2 fun z hz => ?_)
      rcases List.mem_cons.1 (h z (by simp [hz])) with rfl | hz'
      · exact absurd (ha.1 z hz) (by rw [Wt.lt_irrefl]; simp)
      · exact hz'
    · have hx : x ∈ b := by
        rcases List.mem_cons.1 (h x (by simp)) with h' | h'
        · exact absurd h' e
        · exact h'
      have hyx := hb.1 x hx
      refine List.Sublist.cons y (lt_sub b (x :: a) (List.pairwise_cons.2 ha) hb.2 fun z hz => ?_)
      rcases List.mem_cons.1 (h z hz) with rfl | hz'
      · rcases List.mem_cons.1 hz with rfl | hz2
        · exact absurd rfl e
        · exact absurd (Wt.lt_trans (ha.1 z hz2) hyx) (by rw [Wt.lt_irrefl]; simp)
      · exact hz'
theorem lt_ext {a b : List Wt} (ha : a.Pairwise (fun x y => x.lt y = true)) (hb : b.Pairwise (fun x y => x.lt y = true)) (h : ∀ x, x ∈ a ↔ x ∈ b) : a = b := by
  have h1 := lt_sub b a ha hb (fun x hx => (h x).1 hx)
  have h2 := lt_sub a b hb ha (fun x hx => (h x).2 hx)
  exact h1.eq_of_length (Nat.le_antisymm h1.length_le h2.length_le)

/-! ### the chosen slot is the best one -/
/-! ### what is pending -/
/-- y is pending and not active -/
def Qu.pd (ls : List Sl) (lw : List Wt) (y : Wt) : Prop := y ∈ lw ∨ ∃ s ∈ ls, s.state = 1 ∧ s.wt = y
/-- y is pending -/
def Qu.pa (ls : List Sl) (lw : List Wt) (y : Wt) : Prop := y ∈ lw ∨ ∃ s ∈ ls, Sl.isPend s = true ∧ s.wt = y
theorem ex_set {ls : List Sl} {k : Nat} {s x : Sl} (hs : ls[k]? = some s) (p : Sl → Prop) : (∃ u ∈ ls.set k x, p u) ↔ p x ∨ ∃ j u, j ≠ k ∧ ls[j]? = some u ∧ p u := by
  constructor
  · rintro ⟨u, hu, h⟩
    rcases mem_set_or hu with rfl | ⟨j, hj, hu⟩
    · exact .inl h
    · exact .inr ⟨j, u, hj, hu, h⟩
  · rintro (h | ⟨j, u, hj, hu, h⟩)
    · exact ⟨x, List.mem_of_getElem? (i := k) (by rw [List.getElem?_set, if_pos rfl, if_pos (List.getElem?_eq_some_iff.1 hs).1]), h⟩
    · exact ⟨u, List.mem_of_getElem? (i := j) (by rw [List.getElem?_set, if_neg (by omega)]; exact hu), h⟩
theorem ex_at {ls : List Sl} {k : Nat} {s : Sl} (hs : ls[k]? = some s) (p : Sl → Prop) : (∃ u ∈ ls, p u) ↔ p s ∨ ∃ j u, j ≠ k ∧ ls[j]? = some u ∧ p u := by
  have := ex_set (x := s) hs p
  rwa [set_self hs] at this
theorem Qu.step_pd {ls : List Sl} {lw : List Wt} (hs : Qu.settled ls lw = false) (y : Wt) : Qu.pd (Qu.step ls lw).1 (Qu.step ls lw).2 y ↔ Qu.pd ls lw y := by
  obtain ⟨t, rest, rfl, hc⟩ := Qu.unsettled hs
  rcases hc with ⟨k, s, hk, _, hsk, h0⟩ | ⟨hf, k, s, hk, _, hsk, h1, _⟩
  · rw [Qu.step_free hk]
    unfold Qu.pd
    simp only
    rw [ex_set hsk, ex_at hsk]
    simp only [Sl.pend, Sl.wt, true_and, h0, List.mem_cons]
    constructor
    · rintro (h | rfl | h)
      · exact .inl (.inr h)
      · exact .inl (.inl rfl)
      · exact .inr (.inr h)
    · rintro ((rfl | h) | ⟨h, _⟩ | h)
      · exact .inr (.inl rfl)
      · exact .inl h
      · omega
      · exact .inr (.inr h)
  · rw [Qu.step_full hf hk hsk]
    unfold Qu.pd
    simp only
    rw [ex_set hsk, ex_at hsk, Wt.ins_mem]
    simp only [Sl.pend, Sl.wt, true_and, h1, List.mem_cons]
    constructor
    · rintro ((rfl | h) | rfl | h)
      · exact .inr (.inl rfl)
      · exact .inl (.inr h)
      · exact .inl (.inl rfl)
      · exact .inr (.inr h)
    · rintro ((rfl | h) | rfl | h)
      · exact .inr (.inl rfl)
      · exact .inl (.inr h)
      · exact .inl (.inl rfl)
      · exact .inr (.inr h)
theorem Qu.run_pd : ∀ (n : Nat) (ls : List Sl) (lw : List Wt) (y : Wt), Qu.pd (Qu.run n ls lw).1 (Qu.run n ls lw).2 y ↔ Qu.pd ls lw y
  | 0, _, _, _ => Iff.rfl
  | n + 1, ls, lw, y => by
    cases hs : Qu.settled ls lw
    · rw [Qu.run, hs]
      simp only [Bool.false_eq_true, if_false]
      exact (Qu.run_pd n _ _ y).trans (Qu.step_pd hs y)
    · simp [Qu.run, hs]
theorem Qu.st_pd (ls : List Sl) (lw : List Wt) (y : Wt) : Qu.pd (Qu.st ls lw).1 (Qu.st ls lw).2 y ↔ Qu.pd ls lw y := Qu.run_pd 1000 ls lw y
/-- both pending and active -/
def Sl.Both (ls : List Sl) (y : Wt) : Prop := ∃ s ∈ ls, s.state = 3 ∧ s.wt = y
theorem Qu.pa_iff {ls : List Sl} {lw : List Wt} {y : Wt} : Qu.pa ls lw y ↔ Qu.pd ls lw y ∨ Sl.Both ls y := by
  unfold Qu.pa Qu.pd Sl.Both
  constructor
  · rintro (h | ⟨s, hs, h1, h2⟩)
    · exact .inl (.inl h)
    · simp only [Sl.isPend, Bool.or_eq_true, beq_iff_eq] at h1
      rcases h1 with h1 | h1
      · exact .inl (.inr ⟨s, hs, h1, h2⟩)
      · exact .inr ⟨s, hs, h1, h2⟩
  · rintro ((h | ⟨s, hs, h1, h2⟩) | ⟨s, hs, h1, h2⟩)
    · exact .inl h
    · exact .inr ⟨s, hs, by simp [Sl.isPend, h1], h2⟩
    · exact .inr ⟨s, hs, by simp [Sl.isPend, h1], h2⟩
theorem Qu.step_both {ls : List Sl} {lw : List Wt} (hs : Qu.settled ls lw = false) (y : Wt) : Sl.Both (Qu.step ls lw).1 y ↔ Sl.Both ls y := by
  obtain ⟨t, rest, rfl, hc⟩ := Qu.unsettled hs
  unfold Sl.Both
  rcases hc with ⟨k, s, hk, _, hsk, h0⟩ | ⟨hf, k, s, hk, _, hsk, h1, _⟩
  · rw [Qu.step_free hk, ex_set hsk, ex_at hsk]; simp [Sl.pend, h0]
  · rw [Qu.step_full hf hk hsk, ex_set hsk, ex_at hsk]; simp [Sl.pend, h1]
theorem Qu.run_both : ∀ (n : Nat) (ls : List Sl) (lw : List Wt) (y : Wt), Sl.Both (Qu.run n ls lw).1 y ↔ Sl.Both ls y
  | 0, _, _, _ => Iff.rfl
  | n + 1, ls, lw, y => by
    cases hs : Qu.settled ls lw
    · rw [Qu.run, hs]
      simp only [Bool.false_eq_true, if_false]
      exact (Qu.run_both n _ _ y).trans (Qu.step_both hs y)
    · simp [Qu.run, hs]
theorem Qu.st_pa (ls : List Sl) (lw : List Wt) (y : Wt) : Qu.pa (Qu.st ls lw).1 (Qu.st ls lw).2 y ↔ Qu.pa ls lw y := by
  rw [Qu.pa_iff, Qu.pa_iff, Qu.st_pd]
  exact or_congr Iff.rfl (Qu.run_both 1000 ls lw y)
theorem Qu.all_pa {ls : List Sl} {lw : List Wt} {y : Wt} : y ∈ Qu.all ls lw ↔ Qu.pa ls lw y := Qu.all_mem
/-- queues with the same pending ones have the same list of them -/
theorem Qu.all_ext {ls ls' : List Sl} {lw lw' : List Wt} (h : Qu.parts ls lw = true) (h' : Qu.parts ls' lw' = true) (hp : ∀ y, Qu.pa ls lw y ↔ Qu.pa ls' lw' y) : Qu.all ls lw = Qu.all ls' lw' :=
  lt_ext (Qu.all_facts h).2.1 (Qu.all_facts h').2.1 (fun y => by rw [Qu.all_pa, Qu.all_pa]; exact hp y)

/-! ### the order of serving -/
end Go.Proofs.YtfpaafmckeeecaaGreat

/- Queues in plain terms: offering, taking, ending and withdrawing, as the laws on queues say it. No condition. -/
namespace Go.Proofs.YtfpaafmckeeecaaGreat

/-! ### how many are pending -/
def Qu.tot (ls : List Sl) (lw : List Wt) : Nat := lw.length + ls.countP Sl.isPend
theorem Qu.all_length (ls : List Sl) (lw : List Wt) : (Qu.all ls lw).length = Qu.tot ls lw := by
  rw [Qu.all, Qu.foldl_ins_len, Sl.pends, List.length_map, Qu.tot, List.countP_eq_length_filter]
theorem countPend_set : ∀ {ls : List Sl} {k : Nat} {s x : Sl}, ls[k]? = some s → (ls.set k x).countP Sl.isPend + (if Sl.isPend s then 1 else 0) = ls.countP Sl.isPend + (if Sl.isPend x then 1 else 0)
  | [], k, s, x, h => by simp at h
  | y :: ls, 0, s, x, h => by
    simp at h; subst h
    simp only [List.set_cons_zero, List.countP_cons]; omega
  | y :: ls, k + 1, s, x, h => by
    have ih := countPend_set (ls := ls) (k := k) (s := s) (x := x) (by simpa using h)
    simp only [List.set_cons_succ, List.countP_cons]; omega
theorem Qu.step_tot {ls : List Sl} {lw : List Wt} (hs : Qu.settled ls lw = false) : Qu.tot (Qu.step ls lw).1 (Qu.step ls lw).2 = Qu.tot ls lw := by
  obtain ⟨t, rest, rfl, hc⟩ := Qu.unsettled hs
  have hp : Sl.isPend (Sl.pend t) = true := rfl
  rcases hc with ⟨k, s, hk, _, hsk, h0⟩ | ⟨hf, k, s, hk, _, hsk, h1, hlt⟩
  · rw [Qu.step_free hk]
    have := countPend_set (x := Sl.pend t) hsk
    rw [hp, show Sl.isPend s = false by simp [Sl.isPend, h0]] at this
    simp [Qu.tot] at *
    omega
  · rw [Qu.step_full hf hk hsk]
    have := countPend_set (x := Sl.pend t) hsk
    rw [hp, show Sl.isPend s = true by simp [Sl.isPend, h1]] at this
    simp [Qu.tot, Wt.ins_len] at *
    omega
theorem Qu.run_tot : ∀ (n : Nat) (ls : List Sl) (lw : List Wt), Qu.tot (Qu.run n ls lw).1 (Qu.run n ls lw).2 = Qu.tot ls lw
  | 0, _, _ => rfl
  | n + 1, ls, lw => by
    cases hs : Qu.settled ls lw
    · rw [Qu.run, hs]
      simp only [Bool.false_eq_true, if_false]
      rw [Qu.run_tot n, Qu.step_tot hs]
    · simp [Qu.run, hs]
theorem Qu.st_tot (ls : List Sl) (lw : List Wt) : Qu.tot (Qu.st ls lw).1 (Qu.st ls lw).2 = Qu.tot ls lw := Qu.run_tot 1000 ls lw
/-- the interrupts that are pending -/
def Qu.irqs (ls : List Sl) (lw : List Wt) : List Int := (Qu.all ls lw).map Wt.irq
theorem Qu.irqs_mem {ls : List Sl} {lw : List Wt} {i : Int} : i ∈ Qu.irqs ls lw ↔ ∃ y, Qu.pa ls lw y ∧ y.irq = i := by
  rw [Qu.irqs, List.mem_map]
  simp only [Qu.all_pa]

/-! ### offering -/
theorem Qu.pa_hit {ls : List Sl} {lw : List Wt} {i : Int} (hp : Qu.parts ls lw = true) (h : i ∈ Qu.irqs ls lw) : (∃ (k : Nat) (s : Sl), Sl.ix ls i = k ∧ ls[k]? = some s ∧ ¬ s.state = 0 ∧ s.irq = i ∧ Sl.isPend s = true) ∨ (Sl.ix ls i < 0 ∧ lw.any (Wt.isI i) = true) := by
  obtain ⟨hg, _, h2, _, _⟩ := Qu.parts_iff.1 hp
  obtain ⟨y, hy, rfl⟩ := Qu.irqs_mem.1 h
  rcases hy with hy | ⟨s, hs, hps, rfl⟩
  · exact .inr ⟨Sl.ix_neg.2 (h2 y hy), List.any_eq_true.2 ⟨y, hy, by simp [Wt.isI]⟩⟩
  · obtain ⟨k, hk⟩ := List.getElem?_of_mem hs
    have h0 := Sl.isPend_used hps
    exact .inl ⟨k, s, Sl.ix_of hg hk h0, hk, h0, rfl, hps⟩
/-! ### serving -/
/-! ### taking -/
theorem Qu.tk_pa {ls : List Sl} {lw : List Wt} {m : Int} (hp : Qu.parts ls lw = true) (hk : Sl.tkOk ls m = true) (y : Wt) : Qu.pa (Sl.tkS ls) lw y ↔ Qu.pa ls lw y ∧ y.irq ≠ Sl.tkI ls := by
  obtain ⟨hg, _, h2, _, _⟩ := Qu.parts_iff.1 hp
  obtain ⟨k, s, hb, hlt, hs, h1, _, e, e2⟩ := Sl.tkOk_hit hk
  rw [e, e2]
  unfold Qu.pa
  rw [ex_set hs, ex_at hs]
  constructor
  · rintro (h | ⟨h, _⟩ | ⟨j, u, hj, hu, hu1, rfl⟩)
    · exact ⟨.inl h, fun e3 => h2 y h s (List.mem_of_getElem? hs) (by omega) e3.symm⟩
    · simp [Sl.isPend, Sl.act] at h
    · exact ⟨.inr (.inr ⟨j, u, hj, hu, hu1, rfl⟩), Sl.good_two hg hj hu hs (Sl.isPend_used hu1) (by omega)⟩
  · rintro ⟨h | ⟨_, h⟩ | h, hne⟩
    · exact .inl h
    · exact absurd (by rw [← h]; rfl) hne
    · exact .inr (.inr h)
theorem Qu.tk_steps {ls : List Sl} {lw : List Wt} {m : Int} (hq : Qu.good ls lw = true) (hk : Sl.tkOk ls m = true) :
    (Qu.all (Sl.tkS ls) lw).length + 1 = (Qu.all ls lw).length ∧ Sl.tkI ls ∉ Qu.irqs (Sl.tkS ls) lw ∧ Qu.enOk (Sl.tkS ls) lw (Sl.tkI ls) = true ∧ Qu.all (Qu.enP (Sl.tkS ls) lw (Sl.tkI ls)).1 (Qu.enP (Sl.tkS ls) lw (Sl.tkI ls)).2 = Qu.all (Sl.tkS ls) lw ∧ Qu.good (Qu.enP (Sl.tkS ls) lw (Sl.tkI ls)).1 (Qu.enP (Sl.tkS ls) lw (Sl.tkI ls)).2 = true := by
  have hp := (Qu.good_parts hq).1
  have hg := (Qu.parts_get hp).1
  have hp2 := Qu.tk_parts hp hk
  have hq2 := Qu.tk_good hq hk
  obtain ⟨hek, k, s, hs, h1, hb, e, e2, e3⟩ := Qu.tk_end hp hk
  have hgq := Qu.eiP_good hp2 hek
  have hf := Sl.good_fine hg hs
  unfold Sl.fine at hf
  rw [if_neg (by omega)] at hf
  refine ⟨?_, ?_, ?_, ?_, hgq⟩
  · rw [Qu.all_length, Qu.all_length, e]
    have := countPend_set (x := Sl.act s) hs
    rw [show Sl.isPend s = true by simp [Sl.isPend, h1], show Sl.isPend (Sl.act s) = false from rfl] at this
    unfold Qu.tot
    simp at this
    omega
  · rw [Qu.irqs_mem]
    rintro ⟨y, hy, hyi⟩
    exact ((Qu.tk_pa hp hk y).1 hy).2 hyi
  · rw [Qu.enOk, Qu.enG, hq2, hek, e2, show inB s.irq 0 7 = true by rw [inB_iff]; omega]; rfl
  · refine Qu.all_ext (Qu.good_parts hgq).1 hp2 (fun y => ?_)
    rw [Qu.enP, Qu.st_pa, e3, e]
    unfold Qu.pa
    rw [ex_set hs, ex_set hs]
    simp [Sl.isPend, Sl.act]

/-! ### withdrawing -/
theorem Qu.wi_iff {ls : List Sl} {lw : List Wt} {i : Int} (hp : Qu.parts ls lw = true) : Qu.wiOk0 ls lw i = true ↔ i ∈ Qu.irqs ls lw := by
  have hg := (Qu.parts_get hp).1
  constructor
  · intro h
    simp only [Qu.wiOk0, Bool.or_eq_true, Bool.and_eq_true, decide_eq_true_eq] at h
    rw [Qu.irqs_mem]
    rcases h with h | ⟨h1, h2⟩
    · obtain ⟨y, hy, hyi⟩ := List.any_eq_true.1 h
      exact ⟨y, .inl hy, by simpa [Wt.isI] using hyi⟩
    · obtain ⟨k, s, hk, _, hs, h0, hsi⟩ := Sl.ix_hit h1
      rw [hk, Sl.at_get hs] at h2
      have hf := Sl.good_fine hg hs
      unfold Sl.fine at hf
      rw [if_neg h0] at hf
      have h2' : ¬ s.state = 2 := by simpa using h2
      exact ⟨s.wt, .inr ⟨s, List.mem_of_getElem? hs, by simp only [Sl.isPend, Bool.or_eq_true, beq_iff_eq]; omega, rfl⟩, hsi⟩
  · intro h
    simp only [Qu.wiOk0, Bool.or_eq_true, Bool.and_eq_true, decide_eq_true_eq]
    rcases Qu.pa_hit hp h with ⟨k, s, hk, hs, h0, hi, hps⟩ | ⟨_, h2⟩
    · right
      rw [hk, Sl.at_get hs]
      refine ⟨by omega, ?_⟩
      have : ¬ s.state = 2 := fun e => by simp [Sl.isPend, e] at hps
      simpa using this
    · exact .inl h2
theorem Qu.wi_steps {ls : List Sl} {lw : List Wt} {i : Int} (h : Qu.wiOk ls lw i = true) : i ∉ Qu.irqs (Qu.wiP ls lw i).1 (Qu.wiP ls lw i).2 ∧ (Qu.all (Qu.wiP ls lw i).1 (Qu.wiP ls lw i).2).length + 1 = (Qu.all ls lw).length := by
  obtain ⟨hq, _, h0k⟩ := Qu.wiOk_get h
  have hp := (Qu.good_parts hq).1
  obtain ⟨hg, hw1, hw2, hw3, hw4⟩ := Qu.parts_iff.1 hp
  rw [Qu.irqs_mem, Qu.all_length, Qu.all_length, Qu.wiP, Qu.st_tot]
  simp only [Qu.st_pa]
  cases ha : lw.any (Wt.isI i)
  · have hx : 0 ≤ Sl.ix ls i := by
      simp only [Qu.wiOk0, ha, Bool.false_or, Bool.and_eq_true, decide_eq_true_eq] at h0k
      exact h0k.1
    obtain ⟨k, s, hk, _, hs, h0, hsi⟩ := Sl.ix_hit hx
    have hw := Qu.wi_slot (lw := lw) ha hk hs
    rw [hw.2]
    rw [hw.1] at h0k
    have hf := Sl.good_fine hg hs
    unfold Sl.fine at hf
    rw [if_neg h0] at hf
    have h2' : ¬ s.state = 2 := by simpa using h0k
    have hd : Sl.isPend (Sl.drop s) = false := by unfold Sl.drop; split <;> rfl
    constructor
    · rintro ⟨y, hy, hyi⟩
      unfold Qu.pa at hy
      simp only at hy
      rw [ex_set hs] at hy
      rcases hy with hy | ⟨h1, _⟩ | ⟨j, u, hj, hu, hu1, rfl⟩
      · exact Qu.any_isI ha y hy hyi
      · rw [hd] at h1; cases h1
      · exact Sl.good_two hg hj hu hs (Sl.isPend_used hu1) h0 (hyi.trans hsi.symm)
    · have := countPend_set (x := Sl.drop s) hs
      rw [hd, show Sl.isPend s = true by simp only [Sl.isPend, Bool.or_eq_true, beq_iff_eq]; omega] at this
      unfold Qu.tot
      simp at this ⊢
      omega
  · obtain ⟨k, t, hk, hkl, ht, hti⟩ : ∃ (k : Nat) (t : Wt), findIx (Wt.isI i) lw = k ∧ k < lw.length ∧ lw[k]? = some t ∧ Wt.isI i t = true := by
      rcases find_cases (Wt.isI i) lw with ⟨_, h2⟩ | h2
      · rw [ha] at h2; cases h2
      · exact h2
    rw [(Qu.wi_had (ls := ls) hk).2]
    have hti' : t.irq = i := by simpa [Wt.isI] using hti
    constructor
    · rintro ⟨y, hy, hyi⟩
      rcases hy with hy | ⟨s, hs, hps, rfl⟩
      · rw [List.mem_eraseIdx_iff_getElem?] at hy
        obtain ⟨j, hj, hjy⟩ := hy
        obtain ⟨hjl, e1⟩ := List.getElem?_eq_some_iff.1 hjy
        obtain ⟨_, e2⟩ := List.getElem?_eq_some_iff.1 ht
        rcases Nat.lt_or_gt_of_ne hj with h' | h'
        · have := (List.pairwise_iff_getElem.1 hw4) j k hjl hkl h'
          rw [e1, e2] at this
          exact this (hyi.trans hti'.symm)
        · have := (List.pairwise_iff_getElem.1 hw4) k j hkl hjl h'
          rw [e1, e2] at this
          exact this (hti'.trans hyi.symm)
      · exact hw2 t (List.mem_of_getElem? ht) s hs (Sl.isPend_used hps) (hyi.trans hti'.symm)
    · unfold Qu.tot
      simp only [List.length_eraseIdx, if_pos hkl]
      omega

end Go.Proofs.YtfpaafmckeeecaaGreat

/- The library's sort of at most 12 waiting interrupts by their urgency. Condition: at most 12. -/
namespace Go.Proofs.YtfpaafmckeeecaaGreat
open Go.RowKit Go.ChangeShapes Go.WideShapes Go.Deep

theorem Turned.below {w w1 w2 : World} {v : Value} {n : Nat} (ht : Turned w w1 v n) (hb : Below w1.heap.size w1 w2) : Turned w w2 v n := by
  obtain ⟨row, hg, hr⟩ := ht
  exact ⟨row, grown_trans hg (World.grownBy.mk hb.os hb.tape hb.output hb.size (fun k hk _ => hb.block k hk)), hr⟩
theorem Turned.drew {w w1 : World} {v : Value} {n : Nat} (ht : Turned w w1 v n) : Turned w w1.drew v n := ht.below (Below.refl w1.heap.size w1).drew
theorem Turned.setL {w w1 : World} {b off n c m : Nat} (ht : Turned w w1 (.slice (some ⟨b, off, none⟩) n c) m) (hm : 0 < m) (o : Nat) (vs : List Value) : Turned w (setL w1 b o vs) (.slice (some ⟨b, off, none⟩) n c) m := by
  obtain ⟨row, hg, hr⟩ := ht
  have hw : w.grownBy w1 (some b) := ⟨hg.os, hg.tape, hg.output, hg.size, fun i hi hne => hg.block i hi (fun e => hne (by
    have := (hr i e.symm).2
    simp [Value.ownBlock] at this
    rw [this]))⟩
  exact ⟨some b, grown_trans hw (setL_grown vs w1 b o), fun g e => ⟨hm, by simpa [Value.ownBlock] using e⟩⟩
set_option maxHeartbeats 4000000 in
set_option maxRecDepth 8000 in
theorem isortW_any (w0 : World) (v : Value) (l : List Wt) (n : Nat) (hn : n = l.length) (w : World) {hi : Nat} (hb0 : Below w0.heap.size w0 w)
    (h : Ow Wt.cells 2 67 w w0.heap.size hi v l) (hh : hi ≤ w.heap.size) :
    Calls Tryz.prog 109 #[v, .int .i64 0, .int .i64 n, .func (.func 78) #[] #[]] w fun e w' => e = .returned (.tuple #[]) ∧ Ow Wt.cells 2 67 w' w0.heap.size hi v (sortK Wt.lt l) ∧ hi ≤ w'.heap.size ∧ Below w0.heap.size w0 w' ∧ Turned w w' v l.length := by
  obtain ⟨A, n', c, rfl, H, hc, hm⟩ := h.rd.form
  obtain rfl : n' = n := H.out.trans hn.symm
  clear hn
  go_enter Tryz.func109, Tryz.ntmps109
  go_wp2_with fail
  go_loopw [8] (fun i wr => ∃ (k : Nat) (ik : Int), i = .int .i64 ik ∧ Hid (ik = k + 1) ∧ k ≤ n' ∧ Below w0.heap.size w0 wr ∧ hi ≤ wr.heap.size ∧ Ow Wt.cells 2 67 wr w0.heap.size hi (.slice A n' c) (sortK Wt.lt (l.take (k + 1)) ++ l.drop (k + 1)) ∧ Turned w wr (.slice A n' c) l.length) (fun i _ => n' + 1 - (intOf i).toNat)
  case atStart =>
    refine ⟨0, 1, rfl, Lib.hid (by simp), Nat.zero_le _, hb0, hh, ?_, Turned.refl _ _ _⟩
    have : sortK Wt.lt (l.take 1) ++ l.drop 1 = l := by
      cases l with
      | nil => rfl
      | cons x l => simp [sortK, insK, bk]
    rw [this]; exact h
  case round =>
    obtain ⟨k, ik, rfl, HI, hk, hb, hh2, ow, tt⟩ := hrel
    clear hb0 h hh
    have hik0 : 0 < ik := by have := HI.out; omega
    by_cases hlt : ik < (n' : Int)
    · have hlt1 : k + 1 < n' := by have := HI.out; omega
      have hd0 : decide (ik < (n' : Int)) = true := decide_eq_true hlt
      have hkl : k + 1 < l.length := by rw [← H.out]; exact hlt1
      have hSl : (sortK Wt.lt (l.take (k + 1))).length = k + 1 := by rw [sortK_len, List.length_take]; omega
      have HX := Lib.hid (show sortK Wt.lt (l.take (k + 1 + 1)) = insK Wt.lt (sortK Wt.lt (l.take (k + 1))) (l[k + 1]) from sortK_pre (List.getElem?_eq_getElem hkl))
      rw [List.drop_eq_getElem_cons hkl] at ow
      generalize sortK Wt.lt (l.take (k + 1)) = S at *
      generalize l[k + 1] = x at *
      obtain ⟨rest, HR⟩ : ∃ rest, Hid (l.drop (k + 1 + 1) = rest) := ⟨_, Lib.hid rfl⟩
      rw [HR.out] at ow
      have ow2 : Ow Wt.cells 2 67 wr w0.heap.size hi (.slice A n' c) (walkK S x (k + 1) ++ rest) := by
        rw [← hSl, walkK_end]; simpa using ow
      clear ow
      go_wp2_with fail
      go_loopw [9] (fun j w2 => ∃ m : Nat, j = .int .i64 m ∧ m ≤ k + 1 ∧ Below w0.heap.size w0 w2 ∧ hi ≤ w2.heap.size ∧ Ow Wt.cells 2 67 w2 w0.heap.size hi (.slice A n' c) (walkK S x m ++ rest) ∧ Hid (∀ (j : Nat) (y : Wt), m ≤ j → S[j]? = some y → x.lt y = true) ∧ Turned w w2 (.slice A n' c) l.length) (fun j _ => (intOf j).toNat)
      case atStart => exact ⟨k + 1, by rw [HI.out]; rfl, Nat.le_refl _, hb, hh2, ow2, Lib.hid (fun j y hj hy => by rw [List.getElem?_eq_none (by omega)] at hy; cases hy), tt⟩
      case round =>
        obtain ⟨m, rfl, hm2, hb3, hh3, ow3, HJ, tt3⟩ := hrel
        clear hb hh2 ow2 tt
        by_cases hm0 : m = 0
        · subst hm0
          have HQ := Lib.hid (show walkK S x 0 = insK Wt.lt S x from walkK_ins (bk_eq x S 0 (Nat.zero_le _) HJ.out (fun j y h => by omega)))
          have hd : decide ((0 : Int) < ((0 : Nat) : Int)) = false := by simp
          go_wp2_with fail
          refine wp_region_ext_all (by kernel_rfl) (by kernel_rfl) ?_
          repeat (go_big_quiet_step (fail))
          refine wpQuiet_nil ?_
          intro w5 b5
          have z5 := b5.size
          go_wp2_with fail
          go_roundw
          case rel => exact ⟨k + 1, ik + 1, by go_num, Lib.hid (by rw [HI.out]; simp), by omega, hb3.trans (b5.mono hb3.size), by omega, by rw [HX.out, ← HQ.out, HR.out]; exact ow3.below b5 hh3, tt3.below b5⟩
          case measure => simp [intOf] <;> omega
        · obtain ⟨m', rfl⟩ : ∃ m', m = m' + 1 := ⟨m - 1, by omega⟩
          clear hm0
          have hmS : m' < S.length := by omega
          have hyS : S[m']? = some S[m'] := List.getElem?_eq_getElem hmS
          generalize S[m'] = y at hyS
          obtain ⟨b, off, x1, rfl, hx1, hbl0, hbl, f0, f1⟩ := Wt.get ow3.rd (k := m' + 1) (by omega) (Below.refl wr.heap.size wr) hh3
          obtain ⟨_, _, y1, e, hy1, _, _, g0, g1⟩ := Wt.get ow3.rd (k := m') (by omega) (Below.refl wr.heap.size wr) hh3
          injection e with e
          injection e with e1 e2
          subst e1; subst e2
          have hwl : (walkK S x (m' + 1)).length = k + 2 := by simp [walkK, hSl]; omega
          obtain rfl : x1 = x := by
            have := hx1.out
            rw [List.getElem?_append_left (by omega), walkK_at (by omega)] at this
            exact (Option.some.inj this).symm
          obtain rfl : y1 = y := by
            have := hy1.out
            rw [List.getElem?_append_left (by omega), walkK_before hmS, hyS] at this
            exact (Option.some.inj this).symm
          have hcz := urg_neg ⟨x1.irq, x1.prio⟩ ⟨y1.irq, y1.prio⟩
          have hd : decide ((0 : Int) < ((m' + 1 : Nat) : Int)) = true := by simp
          have hi1 : ((m' + 1 : Nat) : Int) < (n' : Int) := by omega
          have e0 := cell_ext f0; have e1 := cell_ext f1; have e2 := cell_ext g0; have e3 := cell_ext g1
          by_cases hq : Wt.lt x1 y1 = true
          · have hd2 : decide (urg ⟨x1.irq, x1.prio⟩ ⟨y1.irq, y1.prio⟩ < 0) = true := decide_eq_true (hcz.2 hq)
            have HW := Lib.hid (walkK_step (rest := rest) (x := x1) hyS)
            have HJ2 := Lib.hid (show ∀ (j : Nat) (y : Wt), m' ≤ j → S[j]? = some y → x1.lt y = true from fun j y hj hy => by
              by_cases hjm : j = m'
              · subst hjm; rw [hyS] at hy; exact (Option.some.inj hy) ▸ hq
              · exact HJ.out j y (by omega) hy)
            clear hcz hq hyS HJ
            go_wp2_with fail
            refine wp_region_ext_all (by kernel_rfl) (by kernel_rfl) ?_
            repeat (go_big_quiet_step (exact calls_ext (compareUrgency_at _ _ _ _ _)))
            refine wpQuiet_nil ?_
            intro w5 b5
            clear e0 e1 e2 e3
            have z5 := b5.size
            replace ow3 := ow3.below b5 hh3
            replace f0 := (b5.cell (p := ⟨b, _, none⟩) (by show b < _; omega)).trans f0
            replace f1 := (b5.cell (p := ⟨b, _, none⟩) (by show b < _; omega)).trans f1
            replace g0 := (b5.cell (p := ⟨b, _, none⟩) (by show b < _; omega)).trans g0
            replace g1 := (b5.cell (p := ⟨b, _, none⟩) (by show b < _; omega)).trans g1
            have hz := ow3.frozen (by omega)
            replace hb3 := hb3.trans (b5.mono hb3.size)
            replace tt3 := tt3.below b5
            clear b5
            go_wp2_with fail
            go_region
            generalize hw : World.setCell (World.setCell (World.setCell (World.setCell _ _ _) _ _) _ _) _ _ = w3
            obtain rfl : w3 = setL (setL w5 b (off + (m' + 1) * 2) [.int .i64 y1.irq, .int .i64 y1.prio]) b (off + m' * 2) [.int .i64 x1.irq, .int .i64 x1.prio] := hw.symm
            clear hw
            have u1 : Upd 67 2 w5 (setL w5 b (off + (m' + 1) * 2) [.int .i64 y1.irq, .int .i64 y1.prio]) b (off + (m' + 1) * 2) (Wt.cells x1) (Wt.cells y1) := by
              have := Upd.of_setL (E := 67) (sz := 2) (w := w5) (b := b) (o := off + (m' + 1) * 2) (xs := Wt.cells x1) (ys' := Wt.cells y1) (ys := [.int .i64 y1.irq, .int .i64 y1.prio]) 0 rfl rfl (by simp)
              simpa using this
            have o2 := ow3.upd Wt.cells_len (by omega) hx1.out u1
            have u2 : Upd 67 2 (setL w5 b (off + (m' + 1) * 2) [.int .i64 y1.irq, .int .i64 y1.prio]) (setL (setL w5 b (off + (m' + 1) * 2) [.int .i64 y1.irq, .int .i64 y1.prio]) b (off + m' * 2) [.int .i64 x1.irq, .int .i64 x1.prio]) b (off + m' * 2) (Wt.cells y1) (Wt.cells x1) := by
              have := Upd.of_setL (E := 67) (sz := 2) (w := setL w5 b (off + (m' + 1) * 2) [.int .i64 y1.irq, .int .i64 y1.prio]) (b := b) (o := off + m' * 2) (xs := Wt.cells y1) (ys' := Wt.cells x1) (ys := [.int .i64 x1.irq, .int .i64 x1.prio]) 0 rfl rfl (by simp)
              simpa using this
            have o3 := o2.upd Wt.cells_len (by omega) (by rw [List.getElem?_set_ne (by omega)]; exact hy1.out) u2
            rw [HW.out] at o3
            have bb := setL_below (setL_below hb3 [.int .i64 y1.irq, .int .i64 y1.prio] b (off + (m' + 1) * 2) hbl0) [.int .i64 x1.irq, .int .i64 x1.prio] b (off + m' * 2) hbl0
            have hs3 : hi ≤ (setL (setL w5 b (off + (m' + 1) * 2) [.int .i64 y1.irq, .int .i64 y1.prio]) b (off + m' * 2) [.int .i64 x1.irq, .int .i64 x1.prio]).heap.size := by rw [setL_size, setL_size]; omega
            go_wp2_with fail
            go_roundw
            case rel => exact ⟨m', by go_num, by omega, bb.drew, hs3, o3.drew, HJ2, ((tt3.setL (by have := H.out; omega) _ _).setL (by have := H.out; omega) _ _).drew⟩
            case measure => simp [intOf] <;> omega
          · have hd2 : decide (urg ⟨x1.irq, x1.prio⟩ ⟨y1.irq, y1.prio⟩ < 0) = false := decide_eq_false (fun h => hq (hcz.1 h))
            have hJ : ∀ (j : Nat) (y : Wt), m' + 1 = j + 1 → S[j]? = some y → x1.lt y = false := fun j y hj hy => by
              obtain rfl : j = m' := by omega
              rw [hyS] at hy
              obtain rfl := Option.some.inj hy
              exact Bool.eq_false_iff.2 hq
            have HQ := Lib.hid (show walkK S x1 (m' + 1) = insK Wt.lt S x1 from walkK_ins (bk_eq x1 S (m' + 1) (by omega) HJ.out hJ))
            clear hJ
            clear hcz hq hyS hx1 hy1 HJ
            go_wp2_with fail
            refine wp_region_ext_all (by kernel_rfl) (by kernel_rfl) ?_
            repeat (go_big_quiet_step (exact calls_ext (compareUrgency_at _ _ _ _ _)))
            refine wpQuiet_nil ?_
            intro w5 b5
            clear e0 e1 e2 e3
            have z5 := b5.size
            go_wp2_with fail
            go_roundw
            case rel => exact ⟨k + 1, ik + 1, by go_num, Lib.hid (by rw [HI.out]; simp), by omega, hb3.trans (b5.mono hb3.size), by omega, by rw [HX.out, ← HQ.out, HR.out]; exact ow3.below b5 hh3, tt3.below b5⟩
            case measure => simp [intOf] <;> omega
    · have h1 : l.take (k + 1) = l := List.take_of_length_le (by have := HI.out; rw [← H.out]; omega)
      have h2 : l.drop (k + 1) = [] := List.drop_of_length_le (by have := HI.out; rw [← H.out]; omega)
      rw [h1, h2, List.append_nil] at ow
      go_wp2_with fail
      go_end0
      exact ⟨rfl, ow, hh2, hb, tt⟩
set_option maxHeartbeats 4000000 in
theorem pdqW_any (w0 : World) (v : Value) (l : List Wt) (n : Nat) (hn : n = l.length) (hn12 : n ≤ 12) (r : Int) (w : World) {hi : Nat} (hb0 : Below w0.heap.size w0 w) (h : Ow Wt.cells 2 67 w w0.heap.size hi v l) (hh : hi ≤ w.heap.size) :
    Calls Tryz.prog 104 #[v, .int .i64 0, .int .i64 n, .int .i64 r, .func (.func 78) #[] #[]] w fun e w' => e = .returned (.tuple #[]) ∧ Ow Wt.cells 2 67 w' w0.heap.size hi v (sortK Wt.lt l) ∧ hi ≤ w'.heap.size ∧ Below w0.heap.size w0 w' ∧ Turned w w' v l.length := by
  have c1 := isortW_any w0 v l n hn w hb0 h hh
  have hd : decide ((n : Int) ≤ 12) = true := decide_eq_true (by omega)
  clear hn
  go_enter Tryz.func104, Tryz.ntmps104
  go_wp2_with fail
  go_loopw [1, 2, 3, 10, 11] (fun a b c d e wr => wr = w ∧ a = .int .i64 0 ∧ b = .int .i64 n) (fun _ _ _ _ _ _ => 0)
  case atStart => exact ⟨rfl, rfl, rfl⟩
  case round =>
    obtain ⟨rfl, rfl, rfl⟩ := hrel
    go_wp2_with fail
    refine c1.mono ?_
    rintro e w1 ⟨rfl, o1, hh1, b1, t1⟩
    go_wp2_with fail
    (try simp only [Exit.inBlock, Exit.then]); refine bodyPost_ret (results_none rfl _ _ _) rfl ?_
    exact ⟨rfl, o1, hh1, b1, t1⟩

theorem sortW_any (w0 : World) (v : Value) (l : List Wt) (hl : l.length ≤ 12) (w : World) {hi : Nat} (hb0 : Below w0.heap.size w0 w) (h : Ow Wt.cells 2 67 w w0.heap.size hi v l) (hh : hi ≤ w.heap.size) :
    Calls Tryz.prog 82 #[v, .func (.func 78) #[] #[]] w fun e w' => e = .returned (.tuple #[]) ∧ Ow Wt.cells 2 67 w' w0.heap.size hi v (sortK Wt.lt l) ∧ hi ≤ w'.heap.size ∧ Below w0.heap.size w0 w' ∧ Turned w w' v l.length := by
  obtain ⟨A, n, c, rfl, H, hc, hm⟩ := h.rd.form
  rw [← H.out] at hl
  have c1 := fun r => pdqW_any w0 _ l n H.out hl r w hb0 h hh
  have c2 := fun W => len_small n W (by omega) (by omega)
  clear h
  go_enter Tryz.func82, Tryz.ntmps82
  go_wp2_with fail
  refine (c2 _).mono ?_; rintro e w' ⟨⟨r, rfl⟩, rfl⟩
  go_wp2_with fail
  refine (c1 r).mono ?_; rintro e w1 ⟨rfl, o1, hh1, b1, t1⟩
  go_wp2_with fail
  go_end0
  exact ⟨rfl, o1, hh1, b1, t1⟩

end Go.Proofs.YtfpaafmckeeecaaGreat

/- All pending interrupts in order, in the program and in the reference. Condition of the inner functions: valid parts. -/
namespace Go.Proofs.YtfpaafmckeeecaaGreat
open Go.RowKit Go.ChangeShapes Go.WideShapes Go.Deep

theorem map_take_succ {l : List Wt} {k : Nat} {x : Wt} (h : l[k]? = some x) : (l.take (k + 1)).map Wt.irq = (l.take k).map Wt.irq ++ [x.irq] := by rw [List.take_add_one, h, List.map_append]; rfl

set_option maxHeartbeats 8000000 in
set_option maxRecDepth 8000 in
theorem implPend_in (vs vw : Value) (ls : List Sl) (lw : List Wt) (w : World) {lo hi lo2 hi2 : Nat} (h : Rd Sl.cells 3 w lo hi vs ls) (h2 : Rd Wt.cells 2 w lo2 hi2 vw lw) (hh : hi ≤ w.heap.size) (hh2 : hi2 ≤ w.heap.size) (hp : Qu.parts ls lw = true) :
    Calls Tryz.prog 40 #[.agg #[vs, vw]] w fun e w' => ∃ v', e = .returned v' ∧ Ow Nm.cells 1 3 w' w.heap.size w'.heap.size v' ((Qu.all ls lw).map Wt.irq) ∧ Below w.heap.size w w' := by
  have b0 : Below w.heap.size w (w.alloc (.cells #[vs, vw] 27)) := (Below.refl w.heap.size w).alloc (Nat.le_refl _) _
  have z0 : (w.alloc (.cells #[vs, vw] 27)).heap.size = w.heap.size + 1 := by simp
  have bq := Box.new w #[vs, vw] 27 rfl
  have hs := h.below b0 hh
  have hw := h2.below b0 hh2
  have hv := h.form
  have hv2 := h2.form
  clear h h2
  generalize hwA : w.alloc (.cells #[vs, vw] 27) = wA at *
  obtain ⟨A0, n0, d0, rfl, H0, hd0, hm0⟩ := hv
  obtain ⟨A1, n1, d1, rfl, H1, hd1, hm1⟩ := hv2
  have hl1 := Sl.good_len (Qu.parts_get hp).1
  have hl2 := Qu.parts_len hp
  have hn0 : n0 ≤ 4 := by rw [H0.out]; omega
  have hn1 : n1 ≤ 8 := by rw [H1.out]; exact hl2
  have HA := Lib.hid (Qu.all_facts hp).1
  clear hp hl1 hl2
  have o4 := own_empty_at wA (base := w.heap.size) (g := w.heap.size + 1) 67 2 z0.symm (by omega)
  have b4 := (Below.refl wA.heap.size wA).alloc (Nat.le_refl _) (.cells #[] 67)
  have hw4 := hw.below b4 (by omega)
  have x0 := (bq.below b4 bq.lt).cell (j := 0) rfl
  have x1 := (bq.below b4 bq.lt).cell (j := 1) rfl
  go_enter Tryz.func40, Tryz.ntmps40
  go_upto_region 2 with (at_builtin; (refine Wt.app_rd rfl _ _ rfl w.heap.size (.slice (some ⟨w.heap.size + 1, 0, none⟩) 0 0) 0 [] rfl o4 rfl hw4 (by omega) (by simp; omega) ?_); (intro v3 w3 o3 g3))
  clear hwA
  have b3 : Below w.heap.size w w3 := (b0.trans (b4.mono (by omega))).grown g3 (by simp; omega) (own_ge o4)
  replace bq := (bq.below b4 bq.lt).grown_own o4 g3 (by decide)
  have zz3 := g3.size
  have zz4 := b4.size
  replace hs := (hs.below b4 (by omega)).below ((Below.refl (wA.heap.size) _).grown g3 (by simp) (fun j hj => by simp [Value.ownBlock] at hj; omega)) (by omega)
  have o5 := own_empty w3 (base := w.heap.size) 3 1 b3.size
  have b5 := (Below.refl w3.heap.size w3).alloc (Nat.le_refl _) (.cells #[] 3)
  replace o3 := own_below o3 b5
  replace bq := bq.below b5 bq.lt
  replace hs := hs.below b5 (by omega)
  replace b3 := b3.trans (b5.mono b3.size)
  clear o4 b4 hw4 g3 x0 x1 hw b0 b5
  obtain ⟨gI, hgI⟩ : ∃ g, g = w3.heap.size := ⟨_, rfl⟩
  rw [← hgI] at o5 ⊢
  generalize w3.alloc _ = w5 at *
  have x0 := bq.cell (j := 0) rfl
  have x1 := bq.cell (j := 1) rfl
  clear hgI
  go_wp2_with fail
  go_loopw [3, 17] (fun v i wr => ∃ (k m : Nat), i = .int .i64 k ∧ k ≤ n0 ∧ Hid (m = (lw ++ Sl.pends (ls.take k)).length) ∧ m ≤ 8 + k ∧ Below w.heap.size w wr ∧ Rd Sl.cells 3 wr lo hi (.slice A0 n0 d0) ls ∧ wr.ownsRow w.heap.size 67 2 v m ((lw ++ Sl.pends (ls.take k)).flatMap Wt.cells) ∧ wr.ownsRow w.heap.size 3 1 (.slice (some ⟨gI, 0, none⟩) 0 0) 0 []) (fun _ i _ => n0 - (intOf i).toNat)
  case atStart => exact ⟨0, n1, rfl, Nat.zero_le _, Lib.hid (by rw [H1.out]; simp [Sl.pends]), by omega, b3, hs, by simpa [Sl.pends] using o3, o5⟩
  case round =>
    clear b3 bq hs o3 o5 x0 x1
    obtain ⟨k, m, rfl, hk, HM, hm, hb, hs, ho, hI⟩ := hrel
    by_cases hlt : k < n0
    · obtain ⟨b, off, s, rfl, hsk, _, hbl, f0, f1, f2⟩ := Sl.get hs hlt (Below.refl wr.heap.size wr) (by have := hb.size; omega)
      have hki : (k : Int) < (n0 : Int) := by omega
      have hkd : decide ((k : Int) < (n0 : Int)) = true := decide_eq_true hki
      have zz := hb.size
      have b5 := (Below.refl wr.heap.size wr).alloc (Nat.le_refl _) (.cells #[.int .i64 s.state, .int .i64 s.irq, .int .i64 s.prio] 76)
      have bs := Box.new wr #[.int .i64 s.state, .int .i64 s.irq, .int .i64 s.prio] 76 rfl
      go_upto_region 5 with fail
      replace hs := hs.below b5 (by omega)
      replace ho := own_below ho b5
      replace hI := own_below hI b5
      replace hb := hb.trans (b5.mono hb.size)
      have zg := bs.lt
      clear b5 f0 f1 f2
      generalize wr.alloc _ = w5 at *
      generalize wr.heap.size = gs at *
      have hN := Sl.pends_pre hsk.out
      by_cases h13 : s.state = 1 ∨ s.state = 3
      · have HN := Lib.hid (show lw ++ Sl.pends (ls.take (k + 1)) = (lw ++ Sl.pends (ls.take k)) ++ [⟨s.irq, s.prio⟩] from by
          rw [hN, if_pos (by rcases h13 with h | h <;> simp [Sl.isPend, h]), List.append_assoc]; rfl)
        clear hN
        have y1 := bs.cell (j := 1) rfl
        have y2 := bs.cell (j := 2) rfl
        have y0 := bs.cell (j := 0) rfl
        rcases h13 with h13 | h13
        all_goals
          rw [h13] at y0
          clear h13
          go_wp2_with fail
          refine (waiterOf_at _ _ _ _).mono ?_; rintro q_ w6 ⟨rfl, b6⟩
          replace hs := hs.below b6 (by omega)
          replace ho := own_below ho b6
          replace hI := own_below hI b6
          replace hb := hb.trans (b6.mono hb.size)
          have zz6 := b6.size
          clear b6 y0 y1 y2
          have b7 := (Below.refl w6.heap.size w6).alloc (Nat.le_refl _) (.cells #[.int .i64 s.irq, .int .i64 s.prio] 67)
          have ho7 := ho.alloc (.cells #[.int .i64 s.irq, .int .i64 s.prio] 67)
          have hI7 := hI.alloc (.cells #[.int .i64 s.irq, .int .i64 s.prio] 67)
          go_wp2_with (at_builtin; (refine Wt.app_one rfl _ _ rfl w.heap.size u3 m _ rfl ho7 (g := w6.heap.size) (c := 1) ⟨s.irq, s.prio⟩ rfl (fun j u hu => cell_new _ _ _ rfl (by simpa [Wt.cells] using hu)) (by omega) (by have := hb.size; simp; omega) ?_); (intro v8 w8 ho8 g8))
          have zz8 := g8.size
          have zz7 := b7.size
          go_roundw
          case rel => exact ⟨k + 1, m + 1, by go_num, by omega, Lib.hid (by rw [HN.out, List.length_append, HM.out]; rfl), by omega, (hb.alloc hb.size _).grown g8 (by have := hb.size; simp; omega) (own_ge ho7), ((hs.below b7 (by omega)).below ((Below.refl w.heap.size _).grown g8 (by simp; omega) (own_ge ho7)) (by omega)), by rw [HN.out, List.flatMap_append]; simpa using ho8, own_kept_type hI7 ho7 g8 (by decide)⟩
          case measure => simp [intOf]; omega
      · have HN := Lib.hid (show Sl.pends (ls.take (k + 1)) = Sl.pends (ls.take k) from by
          rw [hN, if_neg (by intro e; simp [Sl.isPend] at e; exact h13 e), List.append_nil])
        have hb1 : (s.state == 1) = false := by rw [beq_eq_false_iff_ne]; exact fun e => h13 (.inl e)
        have hb3 : (s.state == 3) = false := by rw [beq_eq_false_iff_ne]; exact fun e => h13 (.inr e)
        have y0 := bs.cell (j := 0) rfl
        clear hN h13
        go_wp2_with fail
        go_roundw
        case rel => exact ⟨k + 1, m, by go_num, by omega, by rw [HN.out]; exact HM, by omega, hb, hs, by rw [HN.out]; exact ho, hI⟩
        case measure => simp [intOf]; omega
    · have hk0 : k = n0 := by omega
      have hkd : decide ((k : Int) < (n0 : Int)) = false := decide_eq_false (by omega)
      have HE := Lib.hid (show ls.take k = ls from List.take_of_length_le (by rw [← H0.out]; omega))
      rw [HE.out] at ho HM
      clear hk0 hs
      have oW := Ow.of_own Wt.cells_len ho rfl HM.out
      have c1 := fun hl => sortW_any w u3 (lw ++ Sl.pends ls) hl wr hb oW (Nat.le_refl _)
      have c1 := c1 (by rw [← HM.out]; omega)
      rw [HA.out] at c1
      obtain ⟨xs, HX⟩ : ∃ xs, Hid (Qu.all ls lw = xs) := ⟨_, Lib.hid rfl⟩
      rw [HX.out] at c1
      have H3 := Lib.hid (show m = xs.length from by rw [← HX.out, ← HA.out, sortK_len]; exact HM.out)
      have hal3 : m ≤ 12 := by omega
      obtain ⟨A3, n3, d3, rfl, H4, _, _⟩ := oW.rd.form
      obtain rfl : n3 = m := H4.out.trans HM.out.symm
      clear ho H4
      go_wp2_with fail
      refine c1.mono ?_; rintro q_ w6 ⟨rfl, oR, hz6, hb6, t6⟩
      have o6 := own_turned hI oW t6 (by decide)
      clear hI oW t6 c1 hb
      replace oR := oR.mono (Nat.le_refl _) hz6
      have hb := hb6
      clear hb6 hz6
      go_wp2_with fail
      go_loopw [4, 39] (fun v i wz => ∃ j : Nat, i = .int .i64 j ∧ j ≤ n3 ∧ Below w.heap.size w wz ∧ Ow Wt.cells 2 67 wz w.heap.size wz.heap.size (.slice A3 n3 d3) xs ∧ wz.ownsRow w.heap.size 3 1 v j (((xs.take j).map Wt.irq).flatMap Nm.cells)) (fun _ i _ => n3 - (intOf i).toNat)
      case atStart => exact ⟨0, rfl, Nat.zero_le _, hb, oR.mono (Nat.le_refl _) (by omega), o6⟩
      case round =>
        clear hb oR o6
        obtain ⟨j, rfl, hj, hb, oR, ho⟩ := hrel
        by_cases hlt : j < n3
        · obtain ⟨b, off, x, rfl, hx, _, hbl, f0, f1⟩ := Wt.get oR.rd hlt (Below.refl wr.heap.size wr) (Nat.le_refl _)
          have hki : (j : Int) < (n3 : Int) := by omega
          have hkd : decide ((j : Int) < (n3 : Int)) = true := decide_eq_true hki
          have HM := Lib.hid (map_take_succ hx.out)
          have b5 := (Below.refl wr.heap.size wr).alloc (Nat.le_refl _) (.cells #[.int .i64 x.irq, .int .i64 x.prio] 67)
          have bs := Box.new wr #[.int .i64 x.irq, .int .i64 x.prio] 67 rfl
          go_upto_region 12 with fail
          replace oR := (oR.below b5 (Nat.le_refl _)).mono (Nat.le_refl _) b5.size
          replace ho := own_below ho b5
          replace hb := hb.trans (b5.mono hb.size)
          have zg := bs.lt
          have zz5 := b5.size
          clear b5 f0 f1
          generalize wr.alloc _ = w5 at *
          generalize wr.heap.size = gs at *
          have y0 := bs.cell (j := 0) rfl
          have y1 := bs.cell (j := 1) rfl
          have b7 := (Below.refl w5.heap.size w5).alloc (Nat.le_refl _) (.cells #[.int .i64 x.irq] 3)
          have ho7 := ho.alloc (.cells #[.int .i64 x.irq] 3)
          go_wp2_with (at_builtin; (refine Nm.app_one rfl _ _ rfl w.heap.size u4 j _ rfl ho7 (g := w5.heap.size) (c := 1) x.irq rfl (fun j u hu => cell_new _ _ _ rfl (by simpa [Nm.cells] using hu)) (by omega) (by have := hb.size; simp; omega) ?_); (intro v8 w8 ho8 g8))
          have zz8 := g8.size
          have zz7 := b7.size
          go_roundw
          case rel => exact ⟨j + 1, by go_num, by omega, (hb.alloc hb.size _).grown g8 (by have := hb.size; simp; omega) (own_ge ho7), ((oR.below b7 (Nat.le_refl _)).grown_own ho7 g8 (by decide)).mono (Nat.le_refl _) (by omega), by rw [HM.out, List.flatMap_append]; simpa using ho8⟩
          case measure => simp [intOf]; omega
        · have hkd : decide ((j : Int) < (n3 : Int)) = false := decide_eq_false (by omega)
          have HE := Lib.hid (show xs.take j = xs from List.take_of_length_le (by rw [← H3.out]; omega))
          rw [HE.out] at ho
          have oF := Ow.of_own Nm.cells_len ho rfl (by rw [List.length_map, ← H3.out]; omega)
          obtain ⟨A9, n9, d9, rfl, _, _, _⟩ := oF.rd.form
          go_wp2_with fail
          go_ret
          exact ⟨.slice A9 n9 d9, rfl, by rw [HX.out]; exact oF, hb⟩
set_option maxHeartbeats 4000000 in
theorem implPendingIrqs_any (vs vw : Value) (ls : List Sl) (lw : List Wt) (w : World) {lo hi lo2 hi2 : Nat} (h : Rd Sl.cells 3 w lo hi vs ls) (h2 : Rd Wt.cells 2 w lo2 hi2 vw lw) (hh : hi ≤ w.heap.size) (hh2 : hi2 ≤ w.heap.size) :
    Calls Tryz.prog 12 #[.agg #[vs, vw]] w fun e w' => ∃ v', e = .returned (.tuple #[v', .bool (Qu.good ls lw)]) ∧ Ow Nm.cells 1 3 w' w.heap.size w'.heap.size v' (Qu.peL ls lw) ∧ Below w.heap.size w w' := by
  have b0 : Below w.heap.size w (w.alloc (.cells #[vs, vw] 27)) := (Below.refl w.heap.size w).alloc (Nat.le_refl _) _
  have z0 : (w.alloc (.cells #[vs, vw] 27)).heap.size = w.heap.size + 1 := by simp
  have bq := Box.new w #[vs, vw] 27 rfl
  have hs := h.below b0 hh
  have hw := h2.below b0 hh2
  have hv := h.form
  have hv2 := h2.form
  clear h h2
  generalize hwA : w.alloc (.cells #[vs, vw] 27) = wA at *
  obtain ⟨A0, n0, d0, rfl, H0, hd0, hm0⟩ := hv
  obtain ⟨A1, n1, d1, rfl, H1, hd1, hm1⟩ := hv2
  have c1 := implIsQueue_any _ _ ls lw wA hs hw (by omega) (by omega)
  have x0 := bq.cell (j := 0) rfl
  have x1 := bq.cell (j := 1) rfl
  cases hg : Qu.good ls lw
  · have HF := Lib.hid (Qu.pe_no hg)
    rw [hg] at c1
    clear hg
    go_enter Tryz.func12, Tryz.ntmps12
    go_wp2_with fail
    refine c1.mono ?_; rintro q_ w1 ⟨rfl, b1⟩
    replace b0 := b0.trans (b1.mono (by omega))
    go_wp2_with fail
    go_ret2
    exact ⟨_, rfl, by rw [HF.out]; exact Ow.lit0, b0⟩
  · have HF := Lib.hid (Qu.pe_yes hg)
    have HP := Lib.hid (Qu.good_parts hg).1
    rw [hg] at c1
    clear hg
    go_enter Tryz.func12, Tryz.ntmps12
    go_wp2_with fail
    clear hwA
    refine c1.mono ?_; rintro q_ w1 ⟨rfl, b1⟩
    replace bq := bq.below b1 bq.lt
    have z1 := b1.size
    replace hs := hs.below b1 (by omega)
    replace hw := hw.below b1 (by omega)
    replace b0 := b0.trans (b1.mono (by omega))
    clear b1 x0 x1
    have x0 := bq.cell (j := 0) rfl
    have x1 := bq.cell (j := 1) rfl
    go_wp2_with fail
    refine (implPend_in _ _ ls lw w1 hs hw (by omega) (by omega) HP.out).mono ?_; rintro q_ w2 ⟨v2, rfl, o2, b2⟩
    go_wp2_with fail
    go_ret2
    exact ⟨_, rfl, by rw [HF.out]; exact o2.mono (by omega) (Nat.le_refl _), b0.trans (b2.mono b0.size)⟩

end Go.Proofs.YtfpaafmckeeecaaGreat

/- The public TakeQueue, in the program and in the reference. Condition: at most 1048576 waiting interrupts. -/
namespace Go.Proofs.YtfpaafmckeeecaaGreat
open Go.RowKit Go.ChangeShapes Go.WideShapes Go.Deep

def Qu.ttOk (ls : List Sl) (lw : List Wt) (m : Int) : Bool := (Qu.good ls lw && inB m 0 16) && Sl.tkOk ls m
def Qu.ttS (ls : List Sl) (lw : List Wt) (m : Int) : List Sl := if Qu.ttOk ls lw m then Sl.tkS ls else []
def Qu.ttW (ls : List Sl) (lw : List Wt) (m : Int) : List Wt := if Qu.ttOk ls lw m then lw else []
def Qu.ttV (ls : List Sl) (lw : List Wt) (m : Int) : Int := if Qu.ttOk ls lw m then Sl.tkI ls else 0
theorem Qu.tt_no {ls : List Sl} {lw : List Wt} {m : Int} (h : Qu.ttOk ls lw m = false) : Qu.ttOk ls lw m = false ∧ Qu.ttS ls lw m = [] ∧ Qu.ttW ls lw m = [] ∧ Qu.ttV ls lw m = 0 := by simp [Qu.ttS, Qu.ttW, Qu.ttV, h]
theorem Qu.tt_yes {ls : List Sl} {lw : List Wt} {m : Int} (h : Qu.ttOk ls lw m = true) : Qu.ttOk ls lw m = true ∧ Qu.ttS ls lw m = Sl.tkS ls ∧ Qu.ttW ls lw m = lw ∧ Qu.ttV ls lw m = Sl.tkI ls := by simp [Qu.ttS, Qu.ttW, Qu.ttV, h]
theorem Qu.good_slots {ls : List Sl} {lw : List Wt} (h : Qu.good ls lw = true) : Sl.good ls = true := by
  simp only [Qu.good, Bool.and_eq_true] at h
  exact (Qu.parts_get h.1).1
set_option maxHeartbeats 8000000 in
theorem specTakeQueue_any (vs vw : Value) (ls : List Sl) (lw : List Wt) (m : Int) (w : World) {lo hi lo2 hi2 : Nat} (h : Rd Sl.cells 3 w lo hi vs ls) (h2 : Rd Wt.cells 2 w lo2 hi2 vw lw) (hh : hi ≤ w.heap.size) (hh2 : hi2 ≤ w.heap.size) (hl2 : lw.length ≤ 1048576) :
    Calls Tryz.prog 25 #[.agg #[vs, vw], .int .i64 m] w fun e w' => ∃ v1 v2, e = .returned (.tuple #[.agg #[v1, v2], .int .i64 (Qu.ttV ls lw m), .bool (Qu.ttOk ls lw m)]) ∧ Ow Sl.cells 3 76 w' w.heap.size w'.heap.size v1 (Qu.ttS ls lw m) ∧ Ow Wt.cells 2 67 w' w.heap.size w'.heap.size v2 (Qu.ttW ls lw m) ∧ Below w.heap.size w w' := by
  have b0 : Below w.heap.size w ((w.alloc (.cells #[vs, vw] 27)).alloc (.cells #[.slice none 0 0, .slice none 0 0] 27)) := ((Below.refl w.heap.size w).alloc (Nat.le_refl _) _).alloc (by simp) _
  have z0 : ((w.alloc (.cells #[vs, vw] 27)).alloc (.cells #[.slice none 0 0, .slice none 0 0] 27)).heap.size = w.heap.size + 2 := by simp
  have q0 : ((w.alloc (.cells #[vs, vw] 27)).alloc (.cells #[.slice none 0 0, .slice none 0 0] 27)).cell? ⟨w.heap.size, 0, none⟩ = some vs := by simp
  have q1 : ((w.alloc (.cells #[vs, vw] 27)).alloc (.cells #[.slice none 0 0, .slice none 0 0] 27)).cell? ⟨w.heap.size, 1, none⟩ = some vw := by simp
  have r0 : ((w.alloc (.cells #[vs, vw] 27)).alloc (.cells #[.slice none 0 0, .slice none 0 0] 27)).cell? ⟨w.heap.size + 1, 0, none⟩ = some (.slice none 0 0) := by simp
  have r1 : ((w.alloc (.cells #[vs, vw] 27)).alloc (.cells #[.slice none 0 0, .slice none 0 0] 27)).cell? ⟨w.heap.size + 1, 1, none⟩ = some (.slice none 0 0) := by simp
  have rz : ∀ j, ((w.alloc (.cells #[vs, vw] 27)).alloc (.cells #[.slice none 0 0, .slice none 0 0] 27)).frozen? ⟨w.heap.size + 1, j, none⟩ = false := fun j => froz_new _ _ _ (by simp) j
  have hs := h.below b0 hh
  have hw := h2.below b0 hh2
  have hv := h.form
  have hv2 := h2.form
  clear h h2
  generalize hwA : (w.alloc (.cells #[vs, vw] 27)).alloc (.cells #[.slice none 0 0, .slice none 0 0] 27) = wA at *
  obtain ⟨A0, n0, d0, rfl, H0, hd0, hm0⟩ := hv
  obtain ⟨A, n, c, rfl, H, hc, hm⟩ := hv2
  have c1 := l9Good_any _ _ ls lw _ hs hw (by omega) (by omega)
  have ec := fun W => l1In_any m 0 16 W
  cases hg : Qu.good ls lw
  · have HF := Lib.hid (Qu.tt_no (ls := ls) (lw := lw) (m := m) (by simp [Qu.ttOk, hg]))
    rw [hg] at c1
    clear hg
    go_enter Tryz.func25, Tryz.ntmps25
    go_wp2_with fail
    clear hwA
    refine (c1).mono ?_; rintro q_ w1 ⟨rfl, b1⟩
    obtain ⟨hc_, hf_⟩ := bcell b1
    replace q0 := (hc_ _ 0 (by omega)).trans q0
    replace q1 := (hc_ _ 1 (by omega)).trans q1
    replace r0 := (hc_ _ 0 (by omega)).trans r0
    replace r1 := (hc_ _ 1 (by omega)).trans r1
    replace rz := fun j => (hf_ _ j (by omega)).trans (rz j)
    replace hs := hs.below b1 (by omega)
    replace hw := hw.below b1 (by omega)
    have zz1 := b1.size
    replace b0 := b0.trans (b1.mono (by omega))
    clear hc_ hf_ b1
    go_wp2_with fail
    generalize hwz : World.setCell (World.setCell _ _ _) _ _ = wz
    have u0 : wz.cell? ⟨w.heap.size + 1, 0, none⟩ = some (.slice none 0 0) := by rw [← hwz]; simp [go_sem, r0]
    have u1 : wz.cell? ⟨w.heap.size + 1, 1, none⟩ = some (.slice none 0 0) := by rw [← hwz]; simp [go_sem, r1]
    obtain rfl : wz = setL w1 (w.heap.size + 1) 0 [.slice none 0 0, .slice none 0 0] := hwz.symm
    have hbz := setL_below b0 [.slice none 0 0, .slice none 0 0] (w.heap.size + 1) 0 (by omega)
    have kk : ∀ q, q ≠ w.heap.size + 1 → (setL w1 (w.heap.size + 1) 0 [.slice none 0 0, .slice none 0 0]).heap[q]? = w1.heap[q]? := fun q hq => setL_other _ _ _ _ q hq
    have sz : (setL w1 (w.heap.size + 1) 0 [.slice none 0 0, .slice none 0 0]).heap.size = w1.heap.size := setL_size _ _ _ _
    clear hwz kk
    generalize setL w1 (w.heap.size + 1) 0 [.slice none 0 0, .slice none 0 0] = wz at *
    refine bodyPost_ret (by simp only [results, Tryz.results25]; simp [go_sem, u0, u1]; rfl) rfl ?_
    exact ⟨_, _, by rw [HF.out.1, HF.out.2.2.2], by rw [HF.out.2.1]; exact Ow.nil_, by rw [HF.out.2.2.1]; exact Ow.nil_, hbz⟩
  · have hgs := Qu.good_slots hg
    cases h0 : inB m 0 16
    · have HF := Lib.hid (Qu.tt_no (ls := ls) (lw := lw) (m := m) (by simp [Qu.ttOk, h0]))
      rw [hg] at c1
      rw [h0] at ec
      clear hg h0 hgs
      go_enter Tryz.func25, Tryz.ntmps25
      go_wp2_with fail
      clear hwA
      refine (c1).mono ?_; rintro q_ w1 ⟨rfl, b1⟩
      obtain ⟨hc_, hf_⟩ := bcell b1
      replace q0 := (hc_ _ 0 (by omega)).trans q0
      replace q1 := (hc_ _ 1 (by omega)).trans q1
      replace r0 := (hc_ _ 0 (by omega)).trans r0
      replace r1 := (hc_ _ 1 (by omega)).trans r1
      replace rz := fun j => (hf_ _ j (by omega)).trans (rz j)
      replace hs := hs.below b1 (by omega)
      replace hw := hw.below b1 (by omega)
      have zz1 := b1.size
      replace b0 := b0.trans (b1.mono (by omega))
      clear hc_ hf_ b1
      go_wp2_with fail
      refine (ec _).mono ?_; rintro q_ w_ ⟨rfl, rfl⟩
      go_wp2_with fail
      generalize hwz : World.setCell (World.setCell _ _ _) _ _ = wz
      have u0 : wz.cell? ⟨w.heap.size + 1, 0, none⟩ = some (.slice none 0 0) := by rw [← hwz]; simp [go_sem, r0]
      have u1 : wz.cell? ⟨w.heap.size + 1, 1, none⟩ = some (.slice none 0 0) := by rw [← hwz]; simp [go_sem, r1]
      obtain rfl : wz = setL w1 (w.heap.size + 1) 0 [.slice none 0 0, .slice none 0 0] := hwz.symm
      have hbz := setL_below b0 [.slice none 0 0, .slice none 0 0] (w.heap.size + 1) 0 (by omega)
      have kk : ∀ q, q ≠ w.heap.size + 1 → (setL w1 (w.heap.size + 1) 0 [.slice none 0 0, .slice none 0 0]).heap[q]? = w1.heap[q]? := fun q hq => setL_other _ _ _ _ q hq
      have sz : (setL w1 (w.heap.size + 1) 0 [.slice none 0 0, .slice none 0 0]).heap.size = w1.heap.size := setL_size _ _ _ _
      clear hwz kk
      generalize setL w1 (w.heap.size + 1) 0 [.slice none 0 0, .slice none 0 0] = wz at *
      refine bodyPost_ret (by simp only [results, Tryz.results25]; simp [go_sem, u0, u1]; rfl) rfl ?_
      exact ⟨_, _, by rw [HF.out.1, HF.out.2.2.2], by rw [HF.out.2.1]; exact Ow.nil_, by rw [HF.out.2.2.1]; exact Ow.nil_, hbz⟩
    · cases hk : Sl.tkOk ls m
      · have HF := Lib.hid (Qu.tt_no (ls := ls) (lw := lw) (m := m) (by simp [Qu.ttOk, hk]))
        rw [hg] at c1
        rw [h0] at ec
        clear hg h0
        have ht : Sl.tkW ls m = -1 := by simp [Sl.tkW, hk]
        have c3 := fun (vs vw : Value) (w : World) (lo hi lo2 hi2 : Nat) (h : Rd Sl.cells 3 w lo hi vs ls) (h2 : Rd Wt.cells 2 w lo2 hi2 vw lw) (hh : hi ≤ w.heap.size) (hh2 : hi2 ≤ w.heap.size) => specTakeQ_in vs vw ls lw m w h h2 hh hh2 hgs hl2
        rw [ht] at c3
        clear ht hk hgs
        go_enter Tryz.func25, Tryz.ntmps25
        go_wp2_with fail
        clear hwA
        refine (c1).mono ?_; rintro q_ w1 ⟨rfl, b1⟩
        obtain ⟨hc_, hf_⟩ := bcell b1
        replace q0 := (hc_ _ 0 (by omega)).trans q0
        replace q1 := (hc_ _ 1 (by omega)).trans q1
        replace r0 := (hc_ _ 0 (by omega)).trans r0
        replace r1 := (hc_ _ 1 (by omega)).trans r1
        replace rz := fun j => (hf_ _ j (by omega)).trans (rz j)
        replace hs := hs.below b1 (by omega)
        replace hw := hw.below b1 (by omega)
        have zz1 := b1.size
        replace b0 := b0.trans (b1.mono (by omega))
        clear hc_ hf_ b1
        go_wp2_with fail
        refine (ec _).mono ?_; rintro q_ w_ ⟨rfl, rfl⟩
        go_wp2_with fail
        refine (c3 _ _ _ _ _ _ _ hs hw (by omega) (by omega)).mono ?_; rintro q_ w3 ⟨v5, v6, rfl, o5, o6, b3⟩
        obtain ⟨hc_, hf_⟩ := bcell b3
        replace q0 := (hc_ _ 0 (by omega)).trans q0
        replace q1 := (hc_ _ 1 (by omega)).trans q1
        replace r0 := (hc_ _ 0 (by omega)).trans r0
        replace r1 := (hc_ _ 1 (by omega)).trans r1
        replace rz := fun j => (hf_ _ j (by omega)).trans (rz j)
        replace hs := hs.below b3 (by omega)
        replace hw := hw.below b3 (by omega)
        have zz3 := b3.size
        replace b0 := b0.trans (b3.mono (by omega))
        clear hc_ hf_ b3
        obtain ⟨A5, n5, d5, rfl, _, _, _⟩ := o5.rd.form
        obtain ⟨A6, n6, d6, rfl, _, _, _⟩ := o6.rd.form
        have zlt : w.heap.size + 1 < w3.heap.size := by omega
        go_wp2_with fail
        generalize hwz : World.setCell (World.setCell _ _ _) _ _ = wz
        have u0 : wz.cell? ⟨w.heap.size + 1, 0, none⟩ = some (.slice none 0 0) := by rw [← hwz]; simp [go_sem, r0]
        have u1 : wz.cell? ⟨w.heap.size + 1, 1, none⟩ = some (.slice none 0 0) := by rw [← hwz]; simp [go_sem, r1]
        obtain rfl : wz = setL w3 (w.heap.size + 1) 0 [.slice none 0 0, .slice none 0 0] := hwz.symm
        have hbz := setL_below b0 [.slice none 0 0, .slice none 0 0] (w.heap.size + 1) 0 (by omega)
        have kk : ∀ q, q ≠ w.heap.size + 1 → (setL w3 (w.heap.size + 1) 0 [.slice none 0 0, .slice none 0 0]).heap[q]? = w3.heap[q]? := fun q hq => setL_other _ _ _ _ q hq
        have sz : (setL w3 (w.heap.size + 1) 0 [.slice none 0 0, .slice none 0 0]).heap.size = w3.heap.size := setL_size _ _ _ _
        clear hwz kk
        generalize setL w3 (w.heap.size + 1) 0 [.slice none 0 0, .slice none 0 0] = wz at *
        have bx := (Below.refl wz.heap.size wz).alloc (Nat.le_refl _) (.cells #[.slice A5 n5 d5, .slice A6 n6 d6] 27)
        replace u0 := (bx.cell (p := ⟨w.heap.size + 1, 0, none⟩) (by show w.heap.size + 1 < _; omega)).trans u0
        replace u1 := (bx.cell (p := ⟨w.heap.size + 1, 1, none⟩) (by show w.heap.size + 1 < _; omega)).trans u1
        have sx := bx.size
        replace hbz := hbz.trans (bx.mono (by omega))
        clear bx
        generalize World.alloc wz _ = wy at *
        refine bodyPost_ret (by simp only [results, Tryz.results25]; simp [go_sem, u0, u1]; rfl) rfl ?_
        exact ⟨_, _, by rw [HF.out.1, HF.out.2.2.2], by rw [HF.out.2.1]; exact Ow.nil_, by rw [HF.out.2.2.1]; exact Ow.nil_, hbz⟩
      · have HF := Lib.hid (Qu.tt_yes (ls := ls) (lw := lw) (m := m) (by simp [Qu.ttOk, hg, h0, hk]))
        rw [hg] at c1
        rw [h0] at ec
        clear hg h0
        have ht : Sl.tkW ls m = Sl.tkI ls ∧ Sl.tkL ls m = Sl.tkS ls := by simp [Sl.tkW, Sl.tkL, hk]
        have hd : decide (Sl.tkI ls < 0) = false := decide_eq_false (by have := Sl.tk_irq hgs hk; omega)
        have c3 := fun (vs vw : Value) (w : World) (lo hi lo2 hi2 : Nat) (h : Rd Sl.cells 3 w lo hi vs ls) (h2 : Rd Wt.cells 2 w lo2 hi2 vw lw) (hh : hi ≤ w.heap.size) (hh2 : hi2 ≤ w.heap.size) => specTakeQ_in vs vw ls lw m w h h2 hh hh2 hgs hl2
        rw [ht.1, ht.2] at c3
        clear ht hk hgs
        go_enter Tryz.func25, Tryz.ntmps25
        go_wp2_with fail
        clear hwA
        refine (c1).mono ?_; rintro q_ w1 ⟨rfl, b1⟩
        obtain ⟨hc_, hf_⟩ := bcell b1
        replace q0 := (hc_ _ 0 (by omega)).trans q0
        replace q1 := (hc_ _ 1 (by omega)).trans q1
        replace r0 := (hc_ _ 0 (by omega)).trans r0
        replace r1 := (hc_ _ 1 (by omega)).trans r1
        replace rz := fun j => (hf_ _ j (by omega)).trans (rz j)
        replace hs := hs.below b1 (by omega)
        replace hw := hw.below b1 (by omega)
        have zz1 := b1.size
        replace b0 := b0.trans (b1.mono (by omega))
        clear hc_ hf_ b1
        go_wp2_with fail
        refine (ec _).mono ?_; rintro q_ w_ ⟨rfl, rfl⟩
        go_wp2_with fail
        refine (c3 _ _ _ _ _ _ _ hs hw (by omega) (by omega)).mono ?_; rintro q_ w3 ⟨v5, v6, rfl, o5, o6, b3⟩
        obtain ⟨hc_, hf_⟩ := bcell b3
        replace q0 := (hc_ _ 0 (by omega)).trans q0
        replace q1 := (hc_ _ 1 (by omega)).trans q1
        replace r0 := (hc_ _ 0 (by omega)).trans r0
        replace r1 := (hc_ _ 1 (by omega)).trans r1
        replace rz := fun j => (hf_ _ j (by omega)).trans (rz j)
        replace hs := hs.below b3 (by omega)
        replace hw := hw.below b3 (by omega)
        have zz3 := b3.size
        replace b0 := b0.trans (b3.mono (by omega))
        clear hc_ hf_ b3
        obtain ⟨A5, n5, d5, rfl, _, _, _⟩ := o5.rd.form
        obtain ⟨A6, n6, d6, rfl, _, _, _⟩ := o6.rd.form
        have zlt : w.heap.size + 1 < w3.heap.size := by omega
        go_wp2_with fail
        generalize hwz : World.setCell (World.setCell _ _ _) _ _ = wz
        have u0 : wz.cell? ⟨w.heap.size + 1, 0, none⟩ = some (.slice A5 n5 d5) := by rw [← hwz]; simp [go_sem, r0]
        have u1 : wz.cell? ⟨w.heap.size + 1, 1, none⟩ = some (.slice A6 n6 d6) := by rw [← hwz]; simp [go_sem, r1]
        obtain rfl : wz = setL w3 (w.heap.size + 1) 0 [.slice A5 n5 d5, .slice A6 n6 d6] := hwz.symm
        have hbz := setL_below b0 [.slice A5 n5 d5, .slice A6 n6 d6] (w.heap.size + 1) 0 (by omega)
        have kk : ∀ q, q ≠ w.heap.size + 1 → (setL w3 (w.heap.size + 1) 0 [.slice A5 n5 d5, .slice A6 n6 d6]).heap[q]? = w3.heap[q]? := fun q hq => setL_other _ _ _ _ q hq
        have sz : (setL w3 (w.heap.size + 1) 0 [.slice A5 n5 d5, .slice A6 n6 d6]).heap.size = w3.heap.size := setL_size _ _ _ _
        replace o5 := o5.keep (w' := setL w3 (w.heap.size + 1) 0 [.slice A5 n5 d5, .slice A6 n6 d6]) (fun q hq _ _ => kk q (by omega))
        replace o6 := o6.keep (w' := setL w3 (w.heap.size + 1) 0 [.slice A5 n5 d5, .slice A6 n6 d6]) (fun q hq _ _ => kk q (by omega))
        clear hwz kk
        generalize setL w3 (w.heap.size + 1) 0 [.slice A5 n5 d5, .slice A6 n6 d6] = wz at *
        have bx := (Below.refl wz.heap.size wz).alloc (Nat.le_refl _) (.cells #[.slice A5 n5 d5, .slice A6 n6 d6] 27)
        replace u0 := (bx.cell (p := ⟨w.heap.size + 1, 0, none⟩) (by show w.heap.size + 1 < _; omega)).trans u0
        replace u1 := (bx.cell (p := ⟨w.heap.size + 1, 1, none⟩) (by show w.heap.size + 1 < _; omega)).trans u1
        have sx := bx.size
        replace o5 := o5.below bx (by omega)
        replace o6 := o6.below bx (by omega)
        replace hbz := hbz.trans (bx.mono (by omega))
        clear bx
        generalize World.alloc wz _ = wy at *
        refine bodyPost_ret (by simp only [results, Tryz.results25]; simp [go_sem, u0, u1]; rfl) rfl ?_
        exact ⟨_, _, by rw [HF.out.1, HF.out.2.2.2], by rw [HF.out.2.1]; exact o5.mono (by omega) (by omega), by rw [HF.out.2.2.1]; exact o6.mono (by omega) (by omega), hbz⟩
set_option maxHeartbeats 8000000 in
theorem implTakeQueue_any (vs vw : Value) (ls : List Sl) (lw : List Wt) (m : Int) (w : World) {lo hi lo2 hi2 : Nat} (h : Rd Sl.cells 3 w lo hi vs ls) (h2 : Rd Wt.cells 2 w lo2 hi2 vw lw) (hh : hi ≤ w.heap.size) (hh2 : hi2 ≤ w.heap.size) (hl2 : lw.length ≤ 1048576) :
    Calls Tryz.prog 24 #[.agg #[vs, vw], .int .i64 m] w fun e w' => ∃ v1 v2, e = .returned (.tuple #[.agg #[v1, v2], .int .i64 (Qu.ttV ls lw m), .bool (Qu.ttOk ls lw m)]) ∧ Ow Sl.cells 3 76 w' w.heap.size w'.heap.size v1 (Qu.ttS ls lw m) ∧ Ow Wt.cells 2 67 w' w.heap.size w'.heap.size v2 (Qu.ttW ls lw m) ∧ Below w.heap.size w w' := by
  have b0 : Below w.heap.size w ((w.alloc (.cells #[vs, vw] 27)).alloc (.cells #[.slice none 0 0, .slice none 0 0] 27)) := ((Below.refl w.heap.size w).alloc (Nat.le_refl _) _).alloc (by simp) _
  have z0 : ((w.alloc (.cells #[vs, vw] 27)).alloc (.cells #[.slice none 0 0, .slice none 0 0] 27)).heap.size = w.heap.size + 2 := by simp
  have q0 : ((w.alloc (.cells #[vs, vw] 27)).alloc (.cells #[.slice none 0 0, .slice none 0 0] 27)).cell? ⟨w.heap.size, 0, none⟩ = some vs := by simp
  have q1 : ((w.alloc (.cells #[vs, vw] 27)).alloc (.cells #[.slice none 0 0, .slice none 0 0] 27)).cell? ⟨w.heap.size, 1, none⟩ = some vw := by simp
  have r0 : ((w.alloc (.cells #[vs, vw] 27)).alloc (.cells #[.slice none 0 0, .slice none 0 0] 27)).cell? ⟨w.heap.size + 1, 0, none⟩ = some (.slice none 0 0) := by simp
  have r1 : ((w.alloc (.cells #[vs, vw] 27)).alloc (.cells #[.slice none 0 0, .slice none 0 0] 27)).cell? ⟨w.heap.size + 1, 1, none⟩ = some (.slice none 0 0) := by simp
  have rz : ∀ j, ((w.alloc (.cells #[vs, vw] 27)).alloc (.cells #[.slice none 0 0, .slice none 0 0] 27)).frozen? ⟨w.heap.size + 1, j, none⟩ = false := fun j => froz_new _ _ _ (by simp) j
  have hs := h.below b0 hh
  have hw := h2.below b0 hh2
  have hv := h.form
  have hv2 := h2.form
  clear h h2
  generalize hwA : (w.alloc (.cells #[vs, vw] 27)).alloc (.cells #[.slice none 0 0, .slice none 0 0] 27) = wA at *
  obtain ⟨A0, n0, d0, rfl, H0, hd0, hm0⟩ := hv
  obtain ⟨A, n, c, rfl, H, hc, hm⟩ := hv2
  have c1 := implIsQueue_any _ _ ls lw _ hs hw (by omega) (by omega)
  have ec := fun W => isMask_any m W
  cases hg : Qu.good ls lw
  · have HF := Lib.hid (Qu.tt_no (ls := ls) (lw := lw) (m := m) (by simp [Qu.ttOk, hg]))
    rw [hg] at c1
    clear hg
    go_enter Tryz.func24, Tryz.ntmps24
    go_wp2_with fail
    clear hwA
    refine (c1).mono ?_; rintro q_ w1 ⟨rfl, b1⟩
    obtain ⟨hc_, hf_⟩ := bcell b1
    replace q0 := (hc_ _ 0 (by omega)).trans q0
    replace q1 := (hc_ _ 1 (by omega)).trans q1
    replace r0 := (hc_ _ 0 (by omega)).trans r0
    replace r1 := (hc_ _ 1 (by omega)).trans r1
    replace rz := fun j => (hf_ _ j (by omega)).trans (rz j)
    replace hs := hs.below b1 (by omega)
    replace hw := hw.below b1 (by omega)
    have zz1 := b1.size
    replace b0 := b0.trans (b1.mono (by omega))
    clear hc_ hf_ b1
    go_wp2_with fail
    generalize hwz : World.setCell (World.setCell _ _ _) _ _ = wz
    have u0 : wz.cell? ⟨w.heap.size + 1, 0, none⟩ = some (.slice none 0 0) := by rw [← hwz]; simp [go_sem, r0]
    have u1 : wz.cell? ⟨w.heap.size + 1, 1, none⟩ = some (.slice none 0 0) := by rw [← hwz]; simp [go_sem, r1]
    obtain rfl : wz = setL w1 (w.heap.size + 1) 0 [.slice none 0 0, .slice none 0 0] := hwz.symm
    have hbz := setL_below b0 [.slice none 0 0, .slice none 0 0] (w.heap.size + 1) 0 (by omega)
    have kk : ∀ q, q ≠ w.heap.size + 1 → (setL w1 (w.heap.size + 1) 0 [.slice none 0 0, .slice none 0 0]).heap[q]? = w1.heap[q]? := fun q hq => setL_other _ _ _ _ q hq
    have sz : (setL w1 (w.heap.size + 1) 0 [.slice none 0 0, .slice none 0 0]).heap.size = w1.heap.size := setL_size _ _ _ _
    clear hwz kk
    generalize setL w1 (w.heap.size + 1) 0 [.slice none 0 0, .slice none 0 0] = wz at *
    refine bodyPost_ret (by simp only [results, Tryz.results24]; simp [go_sem, u0, u1]; rfl) rfl ?_
    exact ⟨_, _, by rw [HF.out.1, HF.out.2.2.2], by rw [HF.out.2.1]; exact Ow.nil_, by rw [HF.out.2.2.1]; exact Ow.nil_, hbz⟩
  · have hgs := Qu.good_slots hg
    cases h0 : inB m 0 16
    · have HF := Lib.hid (Qu.tt_no (ls := ls) (lw := lw) (m := m) (by simp [Qu.ttOk, h0]))
      rw [hg] at c1
      rw [h0] at ec
      clear hg h0 hgs
      go_enter Tryz.func24, Tryz.ntmps24
      go_wp2_with fail
      clear hwA
      refine (c1).mono ?_; rintro q_ w1 ⟨rfl, b1⟩
      obtain ⟨hc_, hf_⟩ := bcell b1
      replace q0 := (hc_ _ 0 (by omega)).trans q0
      replace q1 := (hc_ _ 1 (by omega)).trans q1
      replace r0 := (hc_ _ 0 (by omega)).trans r0
      replace r1 := (hc_ _ 1 (by omega)).trans r1
      replace rz := fun j => (hf_ _ j (by omega)).trans (rz j)
      replace hs := hs.below b1 (by omega)
      replace hw := hw.below b1 (by omega)
      have zz1 := b1.size
      replace b0 := b0.trans (b1.mono (by omega))
      clear hc_ hf_ b1
      go_wp2_with fail
      refine (ec _).mono ?_; rintro q_ w_ ⟨rfl, rfl⟩
      go_wp2_with fail
      generalize hwz : World.setCell (World.setCell _ _ _) _ _ = wz
      have u0 : wz.cell? ⟨w.heap.size + 1, 0, none⟩ = some (.slice none 0 0) := by rw [← hwz]; simp [go_sem, r0]
      have u1 : wz.cell? ⟨w.heap.size + 1, 1, none⟩ = some (.slice none 0 0) := by rw [← hwz]; simp [go_sem, r1]
      obtain rfl : wz = setL w1 (w.heap.size + 1) 0 [.slice none 0 0, .slice none 0 0] := hwz.symm
      have hbz := setL_below b0 [.slice none 0 0, .slice none 0 0] (w.heap.size + 1) 0 (by omega)
      have kk : ∀ q, q ≠ w.heap.size + 1 → (setL w1 (w.heap.size + 1) 0 [.slice none 0 0, .slice none 0 0]).heap[q]? = w1.heap[q]? := fun q hq => setL_other _ _ _ _ q hq
      have sz : (setL w1 (w.heap.size + 1) 0 [.slice none 0 0, .slice none 0 0]).heap.size = w1.heap.size := setL_size _ _ _ _
      clear hwz kk
      generalize setL w1 (w.heap.size + 1) 0 [.slice none 0 0, .slice none 0 0] = wz at *
      refine bodyPost_ret (by simp only [results, Tryz.results24]; simp [go_sem, u0, u1]; rfl) rfl ?_
      exact ⟨_, _, by rw [HF.out.1, HF.out.2.2.2], by rw [HF.out.2.1]; exact Ow.nil_, by rw [HF.out.2.2.1]; exact Ow.nil_, hbz⟩
    · cases hk : Sl.tkOk ls m
      · have HF := Lib.hid (Qu.tt_no (ls := ls) (lw := lw) (m := m) (by simp [Qu.ttOk, hk]))
        rw [hg] at c1
        rw [h0] at ec
        clear hg h0
        have ht := Sl.tk_no hk
        have c3 := fun (vs vw : Value) (w : World) (lo hi lo2 hi2 : Nat) (h : Rd Sl.cells 3 w lo hi vs ls) (h2 : Rd Wt.cells 2 w lo2 hi2 vw lw) (hh : hi ≤ w.heap.size) (hh2 : hi2 ≤ w.heap.size) => implTakeQ_in vs vw ls lw m w h h2 hh hh2 hgs hl2
        rw [ht.1, ht.2.1, ht.2.2.1, show Qu.tkK ls m lw = [] from by simp [Qu.tkK, hk]] at c3
        clear ht hk hgs
        go_enter Tryz.func24, Tryz.ntmps24
        go_wp2_with fail
        clear hwA
        refine (c1).mono ?_; rintro q_ w1 ⟨rfl, b1⟩
        obtain ⟨hc_, hf_⟩ := bcell b1
        replace q0 := (hc_ _ 0 (by omega)).trans q0
        replace q1 := (hc_ _ 1 (by omega)).trans q1
        replace r0 := (hc_ _ 0 (by omega)).trans r0
        replace r1 := (hc_ _ 1 (by omega)).trans r1
        replace rz := fun j => (hf_ _ j (by omega)).trans (rz j)
        replace hs := hs.below b1 (by omega)
        replace hw := hw.below b1 (by omega)
        have zz1 := b1.size
        replace b0 := b0.trans (b1.mono (by omega))
        clear hc_ hf_ b1
        go_wp2_with fail
        refine (ec _).mono ?_; rintro q_ w_ ⟨rfl, rfl⟩
        go_wp2_with fail
        refine (c3 _ _ _ _ _ _ _ hs hw (by omega) (by omega)).mono ?_; rintro q_ w3 ⟨v5, v6, rfl, o5, o6, b3⟩
        obtain ⟨hc_, hf_⟩ := bcell b3
        replace q0 := (hc_ _ 0 (by omega)).trans q0
        replace q1 := (hc_ _ 1 (by omega)).trans q1
        replace r0 := (hc_ _ 0 (by omega)).trans r0
        replace r1 := (hc_ _ 1 (by omega)).trans r1
        replace rz := fun j => (hf_ _ j (by omega)).trans (rz j)
        replace hs := hs.below b3 (by omega)
        replace hw := hw.below b3 (by omega)
        have zz3 := b3.size
        replace b0 := b0.trans (b3.mono (by omega))
        clear hc_ hf_ b3
        obtain ⟨A5, n5, d5, rfl, _, _, _⟩ := o5.rd.form
        obtain ⟨A6, n6, d6, rfl, _, _, _⟩ := o6.rd.form
        have zlt : w.heap.size + 1 < w3.heap.size := by omega
        go_wp2_with fail
        generalize hwz : World.setCell (World.setCell _ _ _) _ _ = wz
        have u0 : wz.cell? ⟨w.heap.size + 1, 0, none⟩ = some (.slice A5 n5 d5) := by rw [← hwz]; simp [go_sem, r0]
        have u1 : wz.cell? ⟨w.heap.size + 1, 1, none⟩ = some (.slice A6 n6 d6) := by rw [← hwz]; simp [go_sem, r1]
        obtain rfl : wz = setL w3 (w.heap.size + 1) 0 [.slice A5 n5 d5, .slice A6 n6 d6] := hwz.symm
        have hbz := setL_below b0 [.slice A5 n5 d5, .slice A6 n6 d6] (w.heap.size + 1) 0 (by omega)
        have kk : ∀ q, q ≠ w.heap.size + 1 → (setL w3 (w.heap.size + 1) 0 [.slice A5 n5 d5, .slice A6 n6 d6]).heap[q]? = w3.heap[q]? := fun q hq => setL_other _ _ _ _ q hq
        have sz : (setL w3 (w.heap.size + 1) 0 [.slice A5 n5 d5, .slice A6 n6 d6]).heap.size = w3.heap.size := setL_size _ _ _ _
        replace o5 := o5.keep (w' := setL w3 (w.heap.size + 1) 0 [.slice A5 n5 d5, .slice A6 n6 d6]) (fun q hq _ _ => kk q (by omega))
        replace o6 := o6.keep (w' := setL w3 (w.heap.size + 1) 0 [.slice A5 n5 d5, .slice A6 n6 d6]) (fun q hq _ _ => kk q (by omega))
        clear hwz kk
        generalize setL w3 (w.heap.size + 1) 0 [.slice A5 n5 d5, .slice A6 n6 d6] = wz at *
        refine bodyPost_ret (by simp only [results, Tryz.results24]; simp [go_sem, u0, u1]; rfl) rfl ?_
        exact ⟨_, _, by rw [HF.out.1, HF.out.2.2.2], by rw [HF.out.2.1]; exact o5.mono (by omega) (by omega), by rw [HF.out.2.2.1]; exact o6.mono (by omega) (by omega), hbz⟩
      · have HF := Lib.hid (Qu.tt_yes (ls := ls) (lw := lw) (m := m) (by simp [Qu.ttOk, hg, h0, hk]))
        rw [hg] at c1
        rw [h0] at ec
        clear hg h0
        have ht : Sl.tkOk ls m = true ∧ Sl.tkR ls m = Sl.tkS ls ∧ Sl.tkV ls m = Sl.tkI ls ∧ Qu.tkK ls m lw = lw := by simp [Sl.tkR, Sl.tkV, Qu.tkK, hk]
        have c3 := fun (vs vw : Value) (w : World) (lo hi lo2 hi2 : Nat) (h : Rd Sl.cells 3 w lo hi vs ls) (h2 : Rd Wt.cells 2 w lo2 hi2 vw lw) (hh : hi ≤ w.heap.size) (hh2 : hi2 ≤ w.heap.size) => implTakeQ_in vs vw ls lw m w h h2 hh hh2 hgs hl2
        rw [ht.1, ht.2.1, ht.2.2.1, ht.2.2.2] at c3
        clear ht hk hgs
        go_enter Tryz.func24, Tryz.ntmps24
        go_wp2_with fail
        clear hwA
        refine (c1).mono ?_; rintro q_ w1 ⟨rfl, b1⟩
        obtain ⟨hc_, hf_⟩ := bcell b1
        replace q0 := (hc_ _ 0 (by omega)).trans q0
        replace q1 := (hc_ _ 1 (by omega)).trans q1
        replace r0 := (hc_ _ 0 (by omega)).trans r0
        replace r1 := (hc_ _ 1 (by omega)).trans r1
        replace rz := fun j => (hf_ _ j (by omega)).trans (rz j)
        replace hs := hs.below b1 (by omega)
        replace hw := hw.below b1 (by omega)
        have zz1 := b1.size
        replace b0 := b0.trans (b1.mono (by omega))
        clear hc_ hf_ b1
        go_wp2_with fail
        refine (ec _).mono ?_; rintro q_ w_ ⟨rfl, rfl⟩
        go_wp2_with fail
        refine (c3 _ _ _ _ _ _ _ hs hw (by omega) (by omega)).mono ?_; rintro q_ w3 ⟨v5, v6, rfl, o5, o6, b3⟩
        obtain ⟨hc_, hf_⟩ := bcell b3
        replace q0 := (hc_ _ 0 (by omega)).trans q0
        replace q1 := (hc_ _ 1 (by omega)).trans q1
        replace r0 := (hc_ _ 0 (by omega)).trans r0
        replace r1 := (hc_ _ 1 (by omega)).trans r1
        replace rz := fun j => (hf_ _ j (by omega)).trans (rz j)
        replace hs := hs.below b3 (by omega)
        replace hw := hw.below b3 (by omega)
        have zz3 := b3.size
        replace b0 := b0.trans (b3.mono (by omega))
        clear hc_ hf_ b3
        obtain ⟨A5, n5, d5, rfl, _, _, _⟩ := o5.rd.form
        obtain ⟨A6, n6, d6, rfl, _, _, _⟩ := o6.rd.form
        have zlt : w.heap.size + 1 < w3.heap.size := by omega
        go_wp2_with fail
        generalize hwz : World.setCell (World.setCell _ _ _) _ _ = wz
        have u0 : wz.cell? ⟨w.heap.size + 1, 0, none⟩ = some (.slice A5 n5 d5) := by rw [← hwz]; simp [go_sem, r0]
        have u1 : wz.cell? ⟨w.heap.size + 1, 1, none⟩ = some (.slice A6 n6 d6) := by rw [← hwz]; simp [go_sem, r1]
        obtain rfl : wz = setL w3 (w.heap.size + 1) 0 [.slice A5 n5 d5, .slice A6 n6 d6] := hwz.symm
        have hbz := setL_below b0 [.slice A5 n5 d5, .slice A6 n6 d6] (w.heap.size + 1) 0 (by omega)
        have kk : ∀ q, q ≠ w.heap.size + 1 → (setL w3 (w.heap.size + 1) 0 [.slice A5 n5 d5, .slice A6 n6 d6]).heap[q]? = w3.heap[q]? := fun q hq => setL_other _ _ _ _ q hq
        have sz : (setL w3 (w.heap.size + 1) 0 [.slice A5 n5 d5, .slice A6 n6 d6]).heap.size = w3.heap.size := setL_size _ _ _ _
        replace o5 := o5.keep (w' := setL w3 (w.heap.size + 1) 0 [.slice A5 n5 d5, .slice A6 n6 d6]) (fun q hq _ _ => kk q (by omega))
        replace o6 := o6.keep (w' := setL w3 (w.heap.size + 1) 0 [.slice A5 n5 d5, .slice A6 n6 d6]) (fun q hq _ _ => kk q (by omega))
        clear hwz kk
        generalize setL w3 (w.heap.size + 1) 0 [.slice A5 n5 d5, .slice A6 n6 d6] = wz at *
        refine bodyPost_ret (by simp only [results, Tryz.results24]; simp [go_sem, u0, u1]; rfl) rfl ?_
        exact ⟨_, _, by rw [HF.out.1, HF.out.2.2.2], by rw [HF.out.2.1]; exact o5.mono (by omega) (by omega), by rw [HF.out.2.2.1]; exact o6.mono (by omega) (by omega), hbz⟩

end Go.Proofs.YtfpaafmckeeecaaGreat

/- slices.Delete of one waiting interrupt from a row of the call's own. Condition: the place lies in the row. -/
namespace Go.Proofs.YtfpaafmckeeecaaGreat
open Go.RowKit Go.ChangeShapes Go.WideShapes Go.Deep

theorem setCells_setL2 (b : Nat) : ∀ (vs : List Value) (w : World) (o : Nat), w.setCells b o vs = setL w b o vs
  | [], _, _ => rfl
  | v :: vs, w, o => by unfold World.setCells setL; exact setCells_setL2 b vs _ (o + 1)

/-- append into the room that a row has: the new cells are stored behind it -/
theorem run_append_room {P : Program} (w : World) (t ty e : TypeId) (i : TypeInfo) (sz : Nat) (ht : P.underlying t = some (.slice e)) (hi : P.info? e = some i) (hs : i.size = sz) (g off n c : Nat) (A2 : Option Addr) (m c2 : Nat) (news : List Value)
    (hsrc : (Builtin.firstCells sz m (.slice A2 m c2)).run P w = .ok news.toArray w) (hroom : n + m ≤ c)
    (hc : ∀ j, j < news.length → (w.cell? ⟨g, off + n * sz + j, none⟩).isSome = true) (hf : ∀ j, j < news.length → w.frozen? ⟨g, off + n * sz + j, none⟩ = false) (h1 : ∀ v ∈ news, v.oneCell' = true) :
    (Builtin.append_ #[t, t] ty #[.slice (some ⟨g, off, none⟩) n c, .slice A2 m c2]).run P w = .ok (.slice (some ⟨g, off, none⟩) (n + m) c) (setL w g (off + n * sz) news) := by
  rw [← setCells_setL2]
  have hst := run_storeCells_cells (P := P) g (off + n * sz) news 0 w (by simpa using hc) (by simpa using hf) h1
  simp only [Nat.add_zero] at hst
  simp [Builtin.append_, run_underlying ht, sizeOf, typeInfo, hi, hs, Builtin.lenOf, hsrc, hroom, Go.WideShapes.add_plain, hst]

theorem step_append_room {P : Program} {w : World} {ops : Array Oper} {o : Oper} {a : Act} {K : Act → World → Prop} {Q : Exit → Act → World → Prop} {E : Prop} (hgd : o.guard = none) (s x : Operand) (t : TypeId)
    (ho : o.op = .call { callee := .builtin .append, args := #[s, x], argTypes := #[t, t] }) (v : Value) (w' : World)
    (hrun : (Builtin.append_ #[t, t] o.type #[a.eval s, a.eval x]).run P w = .ok v w') (h : K (a.put o.dst v) w') : if Region.wanted o (yielded ops a.tmps) = true then Oper.wp P o a w K Q else E := by
  have hw : Region.wanted o (yielded ops a.tmps) = true := by simp [Region.wanted, hgd]
  rw [if_pos hw]
  unfold Oper.wp execOp
  simp only [ho, resolve, invoke, builtin, Sem.run_bind, Sem.run_pure, Result.andThen_ok, List.map_toArray, List.map_cons, List.map_nil, hrun]
  exact h

theorem Rd.first {α : Type} {cells : α → List Value} {sz : Nat} {P : Program} {w : World} {lo hi n c : Nat} {A : Option Addr} {l : List α} (hs : ∀ y, (cells y).length = sz) (h : Rd cells sz w lo hi (.slice A n c) l) :
    (Builtin.firstCells sz n (.slice A n c)).run P w = .ok (l.flatMap cells).toArray w := by
  obtain ⟨A', c', hv, hc, hm, hcell⟩ := h
  injection hv with e1 e2 e3
  subst e1; subst e2; subst e3
  rcases A with _ | ad
  · have hl : l = [] := by
      rcases Nat.eq_zero_or_pos l.length with h0 | h0
      · exact List.eq_nil_of_length_eq_zero h0
      · obtain ⟨b, off, hA, _⟩ := hcell h0
        cases hA
    subst hl
    simp [Builtin.firstCells]
  · refine run_firstCells_some w sz l.length ad l.length c (l.flatMap cells) (flat_len hs l) fun j u hu => ?_
    obtain ⟨k, x, i', hk, hx, rfl⟩ := flat_inv hs l j u hu
    have hlt := (List.getElem?_eq_some_iff.1 hk).1
    obtain ⟨b, off, hA, _, _, h⟩ := hcell (by omega)
    injection hA with hA
    subst hA
    rw [Go.WideShapes.add_plain, ← Nat.add_assoc]
    exact h k x hk i' u hx
theorem Ow.cells_in {α : Type} {cells : α → List Value} {sz : Nat} {E : TypeId} {w : World} {lo hi b off n c : Nat} {l : List α} (hs : ∀ y, (cells y).length = sz) (hsz : 0 < sz) (h : Ow cells sz E w lo hi (.slice (some ⟨b, off, none⟩) n c) l) (hn : 0 < n) {j : Nat} (hj : j < n * sz) : (w.cell? ⟨b, off + j, none⟩).isSome = true := by
  obtain ⟨A', c', hv', hc, hm, h⟩ := h
  injection hv' with e1 e2 e3
  subst e1; subst e2; subst e3
  obtain ⟨b', off', cur, hA, hb1, hb2, hh, _, hx⟩ := h (by omega)
  injection hA with hA
  injection hA with e1 e2
  subst e1; subst e2
  rw [cell_of_row w b _ cur E (0, 0) hh]
  have hl : l[l.length - 1]? = some (l[l.length - 1]'(by omega)) := List.getElem?_eq_getElem _
  have hjj : (cells (l[l.length - 1]'(by omega)))[sz - 1]? = some ((cells (l[l.length - 1]'(by omega)))[sz - 1]'(by rw [hs]; omega)) := List.getElem?_eq_getElem _
  have := (Array.getElem?_eq_some_iff.1 (hx _ _ hl _ _ hjj)).1
  have e : l.length * sz = (l.length - 1) * sz + sz := by rw [← Nat.succ_mul]; congr 1; omega
  have hlt : off + j < cur.size := by omega
  simp [hlt]
theorem Ow.setL_in {α : Type} {cells : α → List Value} {sz : Nat} {E : TypeId} {w : World} {lo hi b off n c : Nat} {l : List α} (hs : ∀ y, (cells y).length = sz) (hsz : 0 < sz) (h : Ow cells sz E w lo hi (.slice (some ⟨b, off, none⟩) n c) l) (hn : 0 < n) (o : Nat) (vs : List Value) (ho : o + vs.length ≤ n * sz) :
    (∀ j, j < n * sz → ((setL w b (off + o) vs).cell? ⟨b, off + j, none⟩).isSome = true) ∧ ∀ j, (setL w b (off + o) vs).frozen? ⟨b, j, none⟩ = false := by
  have hci := fun j (hj : j < n * sz) => h.cells_in hs hsz hn hj
  obtain ⟨A', c', hv', hc, hm, h⟩ := h
  injection hv' with e1 e2 e3
  subst e1; subst e2; subst e3
  obtain ⟨b', off', cur, hA, hb1, hb2, hh, _, hx⟩ := h (by omega)
  injection hA with hA
  injection hA with e1 e2
  subst e1; subst e2
  have key : ∀ j, j < l.length * sz → off + j < cur.size := fun j hj => by
    have h1 := hci j hj
    rw [cell_of_row w b _ cur E (0, 0) hh] at h1
    obtain ⟨u, hu⟩ := Option.isSome_iff_exists.1 h1
    exact (Array.getElem?_eq_some_iff.1 hu).1
  have hmul : 0 < l.length * sz := Nat.mul_pos hn hsz
  have hlast := key (l.length * sz - 1) (by omega)
  obtain ⟨c1, f1, f2, _, _⟩ := setL_row E vs w b (off + o) cur hh (by omega)
  refine ⟨fun j hj => ?_, fun j => frozen_of_row _ b j c1 E f1⟩
  rw [cell_of_row _ b _ c1 E (0, 0) f1]
  have := key j hj
  have h2 : off + j < c1.size := by omega
  simp [h2]
/-- one element less: what stood behind it has moved down, the last place is whatever -/
theorem Ow.erase {α : Type} {cells : α → List Value} {sz : Nat} {E : TypeId} {w : World} {lo hi b off n c k : Nat} {l : List α} (hs : ∀ y, (cells y).length = sz) (hsz : 0 < sz) (h : Ow cells sz E w lo hi (.slice (some ⟨b, off, none⟩) n c) l) (hk : k < n) (vs : List Value) (hv : vs.length = sz) :
    Ow cells sz E (setL (setL w b (off + k * sz) ((l.drop (k + 1)).flatMap cells)) b (off + (n - 1) * sz) vs) lo hi (.slice (some ⟨b, off, none⟩) (n - 1) c) (l.eraseIdx k) := by
  obtain ⟨A', c', hv', hc, hm, h⟩ := h
  injection hv' with e1 e2 e3
  subst e1; subst e2; subst e3
  obtain ⟨b', off', cur, hA, hb1, hb2, hh, hzz, hx⟩ := h (by omega)
  injection hA with hA
  injection hA with e1 e2
  subst e1; subst e2
  have hlast : off + l.length * sz ≤ cur.size := by
    have hl : l[l.length - 1]? = some (l[l.length - 1]'(by omega)) := List.getElem?_eq_getElem _
    have hj : (cells (l[l.length - 1]'(by omega)))[sz - 1]? = some ((cells (l[l.length - 1]'(by omega)))[sz - 1]'(by rw [hs]; omega)) := List.getElem?_eq_getElem _
    have := (Array.getElem?_eq_some_iff.1 (hx _ _ hl _ _ hj)).1
    have e : l.length * sz = (l.length - 1) * sz + sz := by rw [← Nat.succ_mul]; congr 1; omega
    omega
  have hdl : (l.drop (k + 1)).length = l.length - (k + 1) := List.length_drop
  have hfl : ((l.drop (k + 1)).flatMap cells).length = (l.length - (k + 1)) * sz := by rw [flat_len hs, hdl]
  have hmul : k * sz + (l.length - (k + 1)) * sz + sz = l.length * sz := by
    rw [← Nat.add_mul, ← Nat.succ_mul]; congr 1; omega
  have hm1 : (l.length - 1) * sz + sz = l.length * sz := by rw [← Nat.succ_mul]; congr 1; omega
  obtain ⟨c1, f1, f2, f3, f4⟩ := setL_row E ((l.drop (k + 1)).flatMap cells) w b (off + k * sz) cur hh (by rw [hfl]; omega)
  obtain ⟨c2, g1, g2, g3, g4⟩ := setL_row E vs (setL w b (off + k * sz) ((l.drop (k + 1)).flatMap cells)) b (off + (l.length - 1) * sz) c1 f1 (by rw [hv]; omega)
  have hel : (l.eraseIdx k).length = l.length - 1 := by rw [List.length_eraseIdx, if_pos hk]
  refine ⟨_, c, by rw [hel], by omega, hm, fun hn => ⟨b, off, c2, rfl, hb1, hb2, g1, by omega, fun i x hi j u hu => ?_⟩⟩
  have hj : j < sz := by rw [← hs x]; exact (List.getElem?_eq_some_iff.1 hu).1
  have hil : i < l.length - 1 := by rw [← hel]; exact (List.getElem?_eq_some_iff.1 hi).1
  have hmi : (i + 1) * sz ≤ (l.length - 1) * sz := Nat.mul_le_mul_right _ (by omega)
  rw [Nat.succ_mul] at hmi
  rw [g4 _ (by omega)]
  rw [List.getElem?_eraseIdx] at hi
  split at hi
  · rename_i hik
    have hmk : (i + 1) * sz ≤ k * sz := Nat.mul_le_mul_right _ (by omega)
    rw [Nat.succ_mul] at hmk
    rw [f4 _ (by omega)]
    exact hx i x hi j u hu
  · rename_i hik
    have h1 : (l.drop (k + 1))[i - k]? = some x := by rw [List.getElem?_drop, show k + 1 + (i - k) = i + 1 by omega]; exact hi
    have h2 := f3 _ u (flat_get hs _ _ x j u h1 hu)
    have hmul2 : k * sz + (i - k) * sz = i * sz := by rw [← Nat.add_mul]; congr 1; omega
    rw [show off + k * sz + ((i - k) * sz + j) = off + i * sz + j by omega] at h2
    exact h2

theorem Wt.clear1 (w : World) (ty : TypeId) (b o c : Nat) (hc : ∀ j, j < 2 → (w.cell? ⟨b, o + j, none⟩).isSome = true) (hf : ∀ j, j < 2 → w.frozen? ⟨b, o + j, none⟩ = false) :
    (Builtin.clear_ #[25] ty #[.slice (some ⟨b, o, none⟩) 1 c]).run Tryz.prog w = .ok (.tuple #[]) (setL w b o [.int .i64 0, .int .i64 0]) := by
  rw [← setCells_setL2]
  have hst := run_storeCells_cells (P := Tryz.prog) b o [.int .i64 0, .int .i64 0] 0 w (by simpa using hc) (by simpa using hf) (by intro v hv; simp at hv; rcases hv with rfl | rfl <;> rfl)
  simp only [Nat.add_zero] at hst
  have hz : (Builtin.zeroCells (Value.agg #[.int .i64 0, .int .i64 0]).cells 1).toList = [.int .i64 0, .int .i64 0] := by simp [Builtin.zeroCells, Value.cells]; rfl
  simp [Builtin.clear_, run_underlying Tryz.underlying25, hz, hst]
set_option maxHeartbeats 4000000 in
theorem Wt.delete_any (A : Option Addr) (n c : Nat) (l : List Wt) (k : Nat) (w : World) {lo hi : Nat} (h : Ow Wt.cells 2 67 w lo hi (.slice A n c) l) (hh : hi ≤ w.heap.size) (hk : k < n) (hn : n ≤ 1048576) :
    Calls Tryz.prog 70 #[.slice A n c, .int .i64 k, .int .i64 ((k : Int) + 1)] w fun e w' => ∃ v', e = .returned v' ∧ Ow Wt.cells 2 67 w' lo hi v' (l.eraseIdx k) ∧ Turned w w' (.slice A n c) l.length := by
  obtain ⟨i0, hi0, hz0, hz1, hz2⟩ := info_parts Wt.info
  have hN := h.rd.n_eq
  have hnl := hN.1
  have hnc := hN.2.1
  have hcm : c ≤ 9223372036854775807 := hN.2.2
  clear hN
  obtain ⟨b, off, x, rfl, hx, hb0, hbl, _, _⟩ := Wt.get h.rd hk (Below.refl w.heap.size w) hh
  obtain ⟨m, rfl⟩ : ∃ m, n = m + 1 := ⟨n - 1, by omega⟩
  have hdr := (h.drew.dropn (k := k + 1) (by omega)).rd
  simp only [Option.map_some, Go.WideShapes.add_plain] at hdr
  generalize hB1 : (if c = k + 1 then (some ⟨b, off, none⟩ : Option Addr) else some ⟨b, off + (k + 1) * 2, none⟩) = B1 at hdr
  have HB := Lib.hid hB1
  clear hB1
  have hdl : (l.drop (k + 1)).length = m + 1 - (k + 1) := by rw [List.length_drop]; omega
  have hfl : ((l.drop (k + 1)).flatMap Wt.cells).length = (m + 1 - (k + 1)) * 2 := by rw [flat_len Wt.cells_len, hdl]
  have hfz := h.frozen (by omega)
  have hci := fun j (hj : j < (m + 1) * 2) => h.cells_in Wt.cells_len (by omega) (by omega) hj
  have hrun := fun ty => run_append_room (P := Tryz.prog) w.drew 25 ty 67 i0 2 Tryz.underlying25 hi0 hz1 b off k c B1 (m + 1 - (k + 1)) (c - (k + 1)) ((l.drop (k + 1)).flatMap Wt.cells) (hdr.first Wt.cells_len) (by omega)
    (fun j hj => by rw [hfl] at hj; have := hci (k * 2 + j) (by omega); rwa [← Nat.add_assoc] at this) (fun j hj => hfz _) (fun u hu => by obtain ⟨y, _, hy⟩ := List.mem_flatMap.1 hu; exact Wt.one y u hy)
  have he := Ow.erase Wt.cells_len (by omega) h.drew hk [.int .i64 0, .int .i64 0] rfl
  have hkm : k + (m + 1 - (k + 1)) = m := by omega
  simp only [hkm] at hrun
  have hcm1 : ¬ c = m := by omega
  have hmc : m ≤ c := by omega
  have hkc : k ≤ c := by omega
  have h01 : (0 : Int) ≤ (k : Int) + 1 := by omega
  have hkm2 : k ≤ m := by omega
  have HN := Lib.hid hnl
  have hne : ((k : Int) == (k : Int) + 1) = false := by rw [beq_eq_false_iff_ne]; omega
  have hst := h.drew.setL_in Wt.cells_len (by omega) (by omega) (k * 2) ((l.drop (k + 1)).flatMap Wt.cells) (by rw [hfl]; omega)
  have hcl := fun ty => Wt.clear1 (setL w.drew b (off + k * 2) ((l.drop (k + 1)).flatMap Wt.cells)) ty b (off + m * 2) (c - m)
    (fun j hj => by rw [Nat.add_assoc]; exact hst.1 _ (by omega)) (fun j _ => hst.2 _)
  have hw0 : w.grownBy (setL (setL w.drew b (off + k * 2) ((l.drop (k + 1)).flatMap Wt.cells)) b (off + m * 2) [.int .i64 0, .int .i64 0]) (some b) :=
    grown_trans (grown_trans (World.grownBy.mk rfl rfl rfl (Nat.le_refl _) (fun _ _ _ => rfl) : w.grownBy w.drew (some b)) (setL_grown _ _ _ _)) (setL_grown _ _ _ _)
  rw [Nat.add_sub_cancel] at he
  clear hci hfz hdr h hst hfl hdl hkm hnl
  go_enter Tryz.func70, Tryz.ntmps70
  go_upto_region 5 with fail
  refine wp_region_any (by kernel_rfl) ?_
  refine wpAny_take (i := 0) (v := .slice (some ⟨b, off, none⟩) (m + 1) c) rfl (by kernel_rfl) (by kernel_rfl) (by kernel_rfl) (fun _ _ _ h => h) (Or.inl ⟨by rfl, by intro w; go_simp⟩) ?_
  refine wpAny_take (i := 1) (v := .int .i64 k) rfl (by kernel_rfl) (by kernel_rfl) (by kernel_rfl) (fun _ _ _ h => h) (Or.inl ⟨by rfl, by intro w; go_simp⟩) ?_
  refine wpAny_take (i := 2) (v := .slice (some ⟨b, off, none⟩) k c) rfl (by kernel_rfl) (by kernel_rfl) (by kernel_rfl) (fun _ _ _ h => h) (Or.inl ⟨by rfl, by intro w; go_simp⟩) ?_
  refine wpAny_take (i := 3) (v := .slice (some ⟨b, off, none⟩) (m + 1) c) rfl (by kernel_rfl) (by kernel_rfl) (by kernel_rfl) (fun _ _ _ h => h) (Or.inl ⟨by rfl, by intro w; go_simp⟩) ?_
  refine wpAny_take (i := 4) (v := .int .i64 ((k : Int) + 1)) rfl (by kernel_rfl) (by kernel_rfl) (by kernel_rfl) (fun _ _ _ h => h) (Or.inl ⟨by rfl, by intro w; go_simp⟩) ?_
  refine wpAny_take (i := 5) (v := .slice B1 (m + 1 - (k + 1)) (c - (k + 1))) rfl (by kernel_rfl) (by kernel_rfl) (by kernel_rfl) (fun _ _ _ h => h) (Or.inl ⟨by rfl, by intro w; go_simp; exact HB.out⟩) ?_
  refine wpAny_ready (rs := [6]) (by kernel_rfl) (by decide) ?_
  refine AllReady.cons rfl (fun K hK => ?_) AllReady.nil
  refine step_append_room rfl _ _ _ rfl _ _ (hrun _) ?_
  clear hrun
  generalize hw1 : setL w.drew b (off + k * 2) ((l.drop (k + 1)).flatMap Wt.cells) = w1 at *
  refine hK _ _ ?_
  refine wpAny_ready (rs := [7]) (by kernel_rfl) (by decide) ?_
  refine AllReady.cons rfl (fun K2 hK2 => ?_) AllReady.nil
  go_simp
  refine hK2 _ _ ?_
  refine ⟨by kernel_rfl, ?_⟩
  go_wp2_with (simp only [hcl])
  go_ret
  exact ⟨_, rfl, he, some b, hw0, fun g e => ⟨by have := HN.out; omega, by simpa [Value.ownBlock] using e⟩⟩

end Go.Proofs.YtfpaafmckeeecaaGreat
