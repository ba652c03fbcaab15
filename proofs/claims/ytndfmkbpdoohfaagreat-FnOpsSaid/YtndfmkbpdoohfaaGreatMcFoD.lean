/- Lemmas and walks that the last text of this claim leans on, part 4. No condition. -/
import Derived.Test.YtndfmkbpdoohfaaGreatMcFoC
/- The reference's draw of a queue: it returns something, in new memory. Condition: at most 100000 reads before. -/
namespace Go.Proofs.YtndfmkbpdoohfaaGreat
open Go.RowKit Go.ChangeShapes Go.WideShapes Go.Deep

/-- the state of a draw of a queue: the code, the reader at g, the result's box, the queue's box at gQ, its rows -/
structure DQ (w : World) (g : Nat) (cv : Value) (l : List UInt8) (lo hi : Nat) (k : Nat) (W : World) (gQ : Nat) (vs vw : Value) (ls : List Sl) (lw : List Wt) : Prop where
 h : Rd By.cells 1 W lo hi cv l
 c : Cur W g cv k
 G : w.grownBy W (some g)
 r : Box W w.heap.size 28 [.slice none 0 0, .slice none 0 0]
 q : Box W gQ 28 [vs, vw]
 os : Ow Sl.cells 3 93 W w.heap.size W.heap.size vs ls
 ow : Ow Wt.cells 2 107 W w.heap.size W.heap.size vw lw
/-- where the blocks lie -/
structure DQF (w : World) (g lo hi gQ : Nat) : Prop where
 hg : g < lo ∨ hi ≤ g
 hh : hi ≤ w.heap.size
 hw : g < w.heap.size
 hq : w.heap.size < gQ
section
variable {w W W' : World} {g lo hi k k' gQ : Nat} {cv vs vw : Value} {l : List UInt8} {ls : List Sl} {lw : List Wt}
theorem DQ.size (d : DQ w g cv l lo hi k W gQ vs vw ls lw) : w.heap.size ≤ W.heap.size := d.G.size
theorem DQ.hle (f : DQF w g lo hi gQ) (d : DQ w g cv l lo hi k W gQ vs vw ls lw) : hi ≤ W.heap.size := Nat.le_trans f.hh d.size
/-- only the reader's block has turned -/
theorem DQ.pick (d : DQ w g cv l lo hi k W gQ vs vw ls lw) (f : DQF w g lo hi gQ) (gg : W.grownBy W' (some g)) (c : Cur W' g cv k') : DQ w g cv l lo hi k' W' gQ vs vw ls lw := by
 obtain ⟨f1, f2, f3, f4⟩ := f
 exact ⟨d.h.grown gg (Nat.le_trans f2 d.size) (fun q e => by injection e with e; omega), c, grown_trans d.G gg, d.r.keep (gg.block _ d.r.lt (fun e => by injection e with e; omega)), d.q.keep (gg.block _ d.q.lt (fun e => by injection e with e; omega)),
  (d.os.apart gg (fun q e => by injection e with e; omega)).mono (Nat.le_refl _) gg.size, (d.ow.apart gg (fun q e => by injection e with e; omega)).mono (Nat.le_refl _) gg.size⟩
theorem DQ.below (d : DQ w g cv l lo hi k W gQ vs vw ls lw) (f : DQF w g lo hi gQ) (b : Below W.heap.size W W') : DQ w g cv l lo hi k W' gQ vs vw ls lw :=
 ⟨d.h.below b (Nat.le_trans f.hh d.size), d.c.grown0 (grown_below b), grown_trans d.G (grown_weaken (grown_below b)), d.r.below b d.r.lt, d.q.below b d.q.lt, (d.os.below b (Nat.le_refl _)).mono (Nat.le_refl _) b.size, (d.ow.below b (Nat.le_refl _)).mono (Nat.le_refl _) b.size⟩
/-- a box of queues, but the result's, is written -/
theorem DQ.wr {gT : Nat} {cs vv : List Value} {off : Nat} (d : DQ w g cv l lo hi k W gQ vs vw ls lw) (f : DQF w g lo hi gQ) (bT : Box W gT 28 cs) (hwT : w.heap.size < gT) {vs' vw' : Value} {ls' : List Sl} {lw' : List Wt} (hq : Box (setL W gT off vv) gQ 28 [vs', vw']) (o1 : Ow Sl.cells 3 93 W w.heap.size W.heap.size vs' ls') (o2 : Ow Wt.cells 2 107 W w.heap.size W.heap.size vw' lw') : DQ w g cv l lo hi k (setL W gT off vv) gQ vs' vw' ls' lw' := by
 obtain ⟨f1, f2, f3, f4⟩ := f
 have hs : (setL W gT off vv).heap.size = W.heap.size := setL_size _ _ _ _
 have gS := setL_grown vv W gT off
 refine ⟨d.h.grown gS (Nat.le_trans f2 d.size) (fun q e => by injection e with e; omega), d.c.other gS (by omega), grown_new d.G gS (fun q e => by injection e with e; omega), d.r.other (by omega) off vv, hq, ?_, ?_⟩
 ·rw [hs]; exact o1.box bT (by decide) off vv
 ·rw [hs]; exact o2.box bT (by decide) off vv
/-- the queue's box is written anew -/
theorem DQ.store (d : DQ w g cv l lo hi k W gQ vs vw ls lw) (f : DQF w g lo hi gQ) {vs' vw' : Value} {ls' : List Sl} {lw' : List Wt} (o1 : Ow Sl.cells 3 93 W w.heap.size W.heap.size vs' ls') (o2 : Ow Wt.cells 2 107 W w.heap.size W.heap.size vw' lw') : DQ w g cv l lo hi k (setL W gQ 0 [vs', vw']) gQ vs' vw' ls' lw' :=
 d.wr f d.q f.hq (d.q.setAll [vs', vw'] rfl) o1 o2
theorem DQ.store1 (d : DQ w g cv l lo hi k W gQ vs vw ls lw) (f : DQF w g lo hi gQ) {vs' : Value} {ls' : List Sl} (o1 : Ow Sl.cells 3 93 W w.heap.size W.heap.size vs' ls') : DQ w g cv l lo hi k (setL W gQ 0 [vs']) gQ vs' vw ls' lw :=
 d.wr f d.q f.hq (d.q.set1 (j := 0) vs' (by simp)) o1 d.ow
/-- another box of queues is written -/
theorem DQ.other {gT : Nat} {cs : List Value} (d : DQ w g cv l lo hi k W gQ vs vw ls lw) (f : DQF w g lo hi gQ) (bT : Box W gT 28 cs) (hne : gQ ≠ gT) (hwT : w.heap.size < gT) (off : Nat) (vv : List Value) : DQ w g cv l lo hi k (setL W gT off vv) gQ vs vw ls lw :=
 d.wr f bT hwT (d.q.other hne off vv) d.os d.ow
theorem DQ.boxed (d : DQ w g cv l lo hi k W gQ vs vw ls lw) (f : DQF w g lo hi gQ) : DQ w g cv l lo hi k (W.alloc (.cells #[.slice none 0 0, .slice none 0 0] 28)) gQ vs vw ls lw ∧ Box (W.alloc (.cells #[.slice none 0 0, .slice none 0 0] 28)) W.heap.size 28 [.slice none 0 0, .slice none 0 0] ∧ gQ < W.heap.size ∧ Below W.heap.size W (W.alloc (.cells #[.slice none 0 0, .slice none 0 0] 28)) := by
 have b := (Below.refl W.heap.size W).alloc (Nat.le_refl _) (.cells #[.slice none 0 0, .slice none 0 0] 28)
 exact ⟨d.below f b, Box.new W #[.slice none 0 0, .slice none 0 0] 28 rfl, d.q.lt, b⟩
/-- the waiting row has grown: the boxes are as they were -/
theorem DQ.app_box {row : Option Nat} (d : DQ w g cv l lo hi k W gQ vs vw ls lw) (gg : W.grownBy W' row) (hr : ∀ q, row = some q → w.heap.size ≤ q ∧ q < W.heap.size ∧ ∃ cur, W.heap[q]? = some (.cells cur 107 (0, 0))) : Box W' gQ 28 [vs, vw] :=
 d.q.other_type gg (fun q e => (hr q e).2.2) (by decide)
theorem DQ.app {row : Option Nat} (d : DQ w g cv l lo hi k W gQ vs vw ls lw) (f : DQF w g lo hi gQ) (gg : W.grownBy W' row) (hr : ∀ q, row = some q → w.heap.size ≤ q ∧ q < W.heap.size ∧ ∃ cur, W.heap[q]? = some (.cells cur 107 (0, 0))) {v8 : Value} {lw' : List Wt} (o8 : Ow Wt.cells 2 107 W' w.heap.size W'.heap.size v8 lw') : DQ w g cv l lo hi k (setL W' gQ 1 [v8]) gQ vs v8 ls lw' := by
 have bq := d.app_box gg hr
 have br : Box W' w.heap.size 28 [.slice none 0 0, .slice none 0 0] := d.r.other_type gg (fun q e => (hr q e).2.2) (by decide)
 have os : Ow Sl.cells 3 93 W' w.heap.size W'.heap.size vs ls := (d.os.other_type gg (fun q e => (hr q e).2.2) (by decide)).mono (Nat.le_refl _) gg.size
 obtain ⟨f1, f2, f3, f4⟩ := f
 have hs : (setL W' gQ 1 [v8]).heap.size = W'.heap.size := setL_size _ _ _ _
 have gS := setL_grown [v8] W' gQ 1
 have hG := grown_new d.G gg (fun q e => (hr q e).1)
 refine ⟨(d.h.grown gg (Nat.le_trans f2 d.size) (fun q e => .inr (by have := (hr q e).1; omega))).grown gS (by have := gg.size; have := d.size; omega) (fun q e => by injection e with e; omega), (d.c.row gg (fun q e => by have := (hr q e).1; omega)).other gS (by omega), grown_new hG gS (fun q e => by injection e with e; omega), br.other (by omega) 1 _, bq.set1 (j := 1) v8 (by simp), ?_, ?_⟩
 ·rw [hs]; exact os.box bq (by decide) 1 _
 ·rw [hs]; exact o8.box bq (by decide) 1 _
/-- one slot is written -/
theorem DQ.slot {b off n c i : Nat} {t t' : Sl} (d : DQ w g cv l lo hi k W gQ (.slice (some ⟨b, off, none⟩) n c) vw ls lw) (f : DQF w g lo hi gQ) (ht : ls[i]? = some t) (hi' : i < n) (hb : w.heap.size ≤ b) : DQ w g cv l lo hi k (setL W b (off + i * 3) t'.cells) gQ (.slice (some ⟨b, off, none⟩) n c) vw (ls.set i t') lw := by
 obtain ⟨f1, f2, f3, f4⟩ := f
 have hs : (setL W b (off + i * 3) t'.cells).heap.size = W.heap.size := setL_size _ _ _ _
 have gS := setL_grown t'.cells W b (off + i * 3)
 have hu : Upd 93 3 W (setL W b (off + i * 3 + 0) t'.cells) b (off + i * 3) t.cells t'.cells := Upd.of_setL 0 (ys := t'.cells) rfl (by simp [Sl.cells]) (by simp [Sl.cells])
 refine ⟨d.h.grown gS (Nat.le_trans f2 d.size) (fun q e => by injection e with e; omega), d.c.other gS (by omega), grown_new d.G gS (fun q e => by injection e with e; omega), d.r.row d.os (by omega) (by decide) _ _, d.q.row d.os (by omega) (by decide) _ _, ?_, ?_⟩
 ·rw [hs]; exact d.os.upd Sl.cells_len (by omega) ht hu
 ·rw [hs]; exact d.ow.row_type d.os (by omega) (by decide) _ _
end
theorem inB_mk {x a b : Int} (h : a ≤ x ∧ x ≤ b) : inB x a b = true := by rw [inB_iff]; omega
theorem Qu.good_fit {ls : List Sl} {lw : List Wt} (h : Qu.good ls lw = true) : Sl.dis ls ∧ ls.length = 4 ∧ lw.length ≤ 8 := ⟨Sl.dis_good (Qu.parts_get (Qu.good_parts h).1).1, Qu.good_len2 h⟩
theorem Qu.good_tkL {ls : List Sl} {lw : List Wt} (h : Qu.good ls lw = true) (m : Int) : Qu.good (Sl.tkL ls m) lw = true := by
 unfold Sl.tkL; split
 ·rename_i hk; exact Qu.tk_good h hk
 ·exact h
theorem Qu.good_ei {ls : List Sl} {lw : List Wt} (h : Qu.good ls lw = true) {i : Int} (hk : Sl.endOk ls i = true) : Qu.good (Qu.eiS ls lw i) (Qu.eiW ls lw i) = true := by
 rw [(Qu.ei_yes hk lw).1, (Qu.ei_yes hk lw).2]; exact Qu.eiP_good (Qu.good_parts h).1 hk
theorem Qu.good_of {ls : List Sl} {lw : List Wt} (h : Qu.good ls lw = true) {i p : Int} (hi : 0 ≤ i ∧ i ≤ 7) (hp : 0 ≤ p ∧ p ≤ 15) : Qu.good (Qu.ofP ls lw i p).1 (Qu.ofP ls lw i p).2 = true :=
 Qu.ofP_good (by simp only [Qu.ofOk, h, Bool.true_and, Bool.and_eq_true]; exact ⟨by rw [inB_iff]; omega, by rw [inB_iff]; omega⟩)
theorem Qu.good0 : Qu.good [⟨0, 0, 0⟩, ⟨0, 0, 0⟩, ⟨0, 0, 0⟩, ⟨0, 0, 0⟩] [] = true := by decide
theorem Wt.appK_ow {w : World} {o : Oper} {a : Act} {Q : Exit → Act → World → Prop} {K : Act → World → Prop} (hgd : o.guard = none) (s x : Operand)
  (ho : o.op = .call { callee := .builtin .append, args := #[s, x], argTypes := #[26, 26] }) {lo hi n c : Nat} {A : Option Addr} {l : List Wt} (hs : a.eval s = .slice A n c) (h : Ow Wt.cells 2 107 w lo hi (.slice A n c) l)
  (g cx : Nat) (y : Wt) (hx : a.eval x = .slice (some ⟨g, 0, none⟩) 1 cx) (hr : ∀ j u, (Wt.cells y)[j]? = some u → w.cell? ⟨g, j, none⟩ = some u) (hlen : n ≤ 4194304) (hlo : lo ≤ w.heap.size) (hhi : hi ≤ w.heap.size)
  (hk : ∀ v' w' row, Ow Wt.cells 2 107 w' lo w'.heap.size v' (l ++ [y]) → w.grownBy w' row → (∀ q, row = some q → lo ≤ q ∧ q < hi ∧ ∃ cur, w.heap[q]? = some (.cells cur 107 (0, 0))) → K (a.put o.dst v') w') {ops : Array Oper} : if Region.wanted o (yielded ops a.tmps) = true then Oper.wp Tryz.prog o a w K Q else K (a.put o.dst undef) w := by
 have hw : Region.wanted o (yielded ops a.tmps) = true := by simp [Region.wanted, hgd]
 rw [if_pos hw]
 obtain ⟨i0, hi0, hz0, hz1, hz2⟩ := info_parts Wt.info
 obtain ⟨v', w', hrun, h2, row, h3, h4⟩ := run_app_ow (P := Tryz.prog) w 26 o.type _ i0 _ 2 _ Tryz.underlying26 hi0 hz0 hz1 hz2 rfl (by omega) Wt.cells_len Wt.one h g cx y hr (by unfold maxLen; omega) (by omega) hlo hhi
 unfold Oper.wp execOp
 simp only [ho, resolve, invoke, builtin, Sem.run_bind, Sem.run_pure, Result.andThen_ok, List.map_toArray, List.map_cons, List.map_nil, hs, hx, hrun]
 exact hk v' w' row h2 h3 h4

set_option maxRecDepth 8000 in
set_option maxHeartbeats 8000000 in
theorem queue_any (g k : Nat) (cv : Value) (l : List UInt8) (w : World) {lo hi : Nat} (h : Rd By.cells 1 w lo hi cv l) (hh : hi ≤ w.heap.size) (hg : g < lo ∨ hi ≤ g) (hc : Cur w g cv k) (hk : k ≤ 50000) :
  Calls Tryz.prog 89 #[.pointer (some ⟨g, 0, none⟩)] w fun e w' => ∃ vs vw, ∃ ls : List Sl, ∃ lw : List Wt, e = .returned (.agg #[vs, vw]) ∧ Sl.dis ls ∧ ls.length ≤ 5 ∧ lw.length ≤ 9 ∧ Ow Sl.cells 3 93 w' w.heap.size w'.heap.size vs ls ∧ Ow Wt.cells 2 107 w' w.heap.size w'.heap.size vw lw ∧ w.grownBy w' (some g) ∧ Cur w' g cv (k + 300) := by
 have hgl := hc.lt
 go_enter Tryz.func89, Tryz.ntmps89
 have bR0 := Box.new w #[.slice none 0 0, .slice none 0 0] 28 rfl
 have B1 := (Below.refl w.heap.size w).alloc (Nat.le_refl _) (.cells #[.slice none 0 0, .slice none 0 0] 28)
 have z1 : (w.alloc (.cells #[.slice none 0 0, .slice none 0 0] 28)).heap.size = w.heap.size + 1 := by simp
 go_wp2_with fail
 generalize w.alloc (.cells #[.slice none 0 0, .slice none 0 0] 28) = w1 at *
 have o1 := lit_slots w1
 have l2 := (Below.refl w1.heap.size w1).alloc (Nat.le_refl _) (.cells #[.int .i64 0, .int .i64 0, .int .i64 0, .int .i64 0, .int .i64 0, .int .i64 0, .int .i64 0, .int .i64 0, .int .i64 0, .int .i64 0, .int .i64 0, .int .i64 0] 93)
 have z2 : (w1.alloc (.cells #[.int .i64 0, .int .i64 0, .int .i64 0, .int .i64 0, .int .i64 0, .int .i64 0, .int .i64 0, .int .i64 0, .int .i64 0, .int .i64 0, .int .i64 0, .int .i64 0] 93)).heap.size = w1.heap.size + 1 := by simp
 replace bR0 := bR0.below l2 bR0.lt
 replace B1 := B1.trans (l2.mono (by omega))
 rw [z1] at o1 z2
 clear l2
 generalize w1.alloc (.cells #[.int .i64 0, .int .i64 0, .int .i64 0, .int .i64 0, .int .i64 0, .int .i64 0, .int .i64 0, .int .i64 0, .int .i64 0, .int .i64 0, .int .i64 0, .int .i64 0] 93) = w2 at *
 have l3 := (Below.refl w2.heap.size w2).alloc (Nat.le_refl _) (.cells #[] 107)
 have o2 : Ow Wt.cells 2 107 (w2.alloc (.cells #[] 107)) w.heap.size (w2.alloc (.cells #[] 107)).heap.size (.slice (some ⟨w.heap.size + 1 + 1, 0, none⟩) 0 0) [] := Ow.lit0
 have z3 : (w2.alloc (.cells #[] 107)).heap.size = w2.heap.size + 1 := by simp
 replace bR0 := bR0.below l3 bR0.lt
 replace B1 := B1.trans (l3.mono (by omega))
 replace o1 := o1.below l3 (by omega)
 rw [z2] at z3
 clear l3
 generalize w2.alloc (.cells #[] 107) = w3 at *
 have l4 := (Below.refl w3.heap.size w3).alloc (Nat.le_refl _) (.cells #[.slice (some ⟨w.heap.size + 1, 0, none⟩) 4 4, .slice (some ⟨w.heap.size + 1 + 1, 0, none⟩) 0 0] 28)
 have bQ := Box.new (g := (w.heap.size + 1 + 1 + 1)) w3 #[.slice (some ⟨w.heap.size + 1, 0, none⟩) 4 4, .slice (some ⟨w.heap.size + 1 + 1, 0, none⟩) 0 0] 28 z3.symm
 have z4 : (w3.alloc (.cells #[.slice (some ⟨w.heap.size + 1, 0, none⟩) 4 4, .slice (some ⟨w.heap.size + 1 + 1, 0, none⟩) 0 0] 28)).heap.size = w3.heap.size + 1 := by simp
 replace bR0 := bR0.below l4 bR0.lt
 replace B1 := B1.trans (l4.mono (by omega))
 replace o1 := o1.below l4 (by omega)
 replace o2 := o2.below l4 (by omega)
 clear l4
 generalize w3.alloc (.cells #[.slice (some ⟨w.heap.size + 1, 0, none⟩) 4 4, .slice (some ⟨w.heap.size + 1 + 1, 0, none⟩) 0 0] 28) = w4 at *
 have HF : DQF w g lo hi (w.heap.size + 1 + 1 + 1) := ⟨hg, hh, hgl, by omega⟩
 have hq : DQ w g cv l lo hi k w4 (w.heap.size + 1 + 1 + 1) _ _ _ _ := ⟨h.below B1 hh, hc.grown0 (grown_below B1), grown_weaken (grown_below B1), bR0, bQ, o1.mono (by omega) (by omega), o2.mono (by omega) (by omega)⟩
 clear h hc bR0 B1 o1 o2 bQ z1 z2 z3 z4
 have hg0 := Lib.hid Qu.good0
 generalize w.heap.size + 1 + 1 + 1 = gQ at *
 have hgQ : w.heap.size < gQ := HF.hq
 refine (pick_any g _ _ l 14 _ hq.h (DQ.hle HF hq) hg hq.c (by omega) (by omega)).mono ?_; rintro q_ wp_x1 ⟨x1, rfl, x1_0, x1_1, gg, kk⟩
 replace hq := hq.pick HF gg kk
 clear gg kk
 obtain ⟨m, rfl⟩ : ∃ m : Nat, x1 = m := ⟨x1.toNat, by omega⟩
 have hm9 : m < 14 := by omega
 clear x1_0 x1_1
 go_wp2_with fail
 go_loopw [4] (fun v4 wr => ∃ (i q : Nat) (ls : List Sl) (lw : List Wt) (A0 A1 : Option Addr) (n0 c0 n1 c1 : Nat), i + q = m ∧ v4 = .int .i64 q ∧ Hid (Qu.good ls lw = true) ∧ DQ w g cv l lo hi (k + 2 + 8 * i) wr gQ (.slice A0 n0 c0) (.slice A1 n1 c1) ls lw) (fun v4 _ => (intOf v4).toNat)
 case atStart => exact ⟨0, m, _, _, _, _, _, _, _, _, by omega, rfl, hg0, hq⟩
 case round =>
  clear hq hg0
  obtain ⟨i, q, ls, lw, A0, A1, n0, c0, n1, c1, hiq, rfl, HGd, hq⟩ := hrel
  rcases Nat.eq_zero_or_pos q with hz | hz
  rotate_left
  ·obtain ⟨p, rfl⟩ : ∃ p, q = p + 1 := ⟨q - 1, by omega⟩
   have hqd : decide ((0 : Int) < ((p + 1 : Nat) : Int)) = true := decide_eq_true (by omega)
   have bq0 := hq.q.c0
   have bq1 := hq.q.c1
   have bqz := hq.q.frozen
   have bql := hq.q.lt
   go_wp2_with fail
   clear bq0 bq1 bqz bql
   refine (pick_any g _ _ l 5 _ hq.h (DQ.hle HF hq) hg hq.c (by omega) (by omega)).mono ?_; rintro q_ wp_y1 ⟨y1, rfl, y1_0, y1_1, gg, kk⟩
   replace hq := hq.pick HF gg kk
   clear gg kk
   rcases (show y1 = 0 ∨ y1 = 1 ∨ y1 = 2 ∨ y1 = 3 ∨ y1 = 4 by omega) with rfl | rfl | rfl | rfl | rfl
   all_goals clear y1_0 y1_1
   ·go_upto_region 9 with fail
    have hCalls := HGd.out
    have hPp := Lib.hid (Qu.good_parts hCalls).1
    clear hCalls
    replace hq := hq.below HF (Below.refl _ _).drew
    have bq0 := hq.q.c0
    have bq1 := hq.q.c1
    have bqz := hq.q.frozen
    have bql := hq.q.lt
    go_region_with (first | (go_at_call 61; refine (pick_any g _ _ l 8 _ hq.h (DQ.hle HF hq) hg hq.c (by omega) (by omega)).mono ?_; rintro q_ wp ⟨y, rfl, y_0, y_1, gg, kk⟩; (replace hq := hq.pick HF gg kk); (have bq0 := hq.q.c0); (have bq1 := hq.q.c1); (have bqz := hq.q.frozen); (have bql := hq.q.lt)) | (go_at_call 91; refine (specOffer_in _ _ ls lw _ _ _ hq.os.rd hq.ow.rd (Nat.le_refl _) (Nat.le_refl _) hPp.out (inB_mk (by omega)) (inB_mk (by omega))).mono ?_; rintro q_ wo ⟨v5, v6, rfl, o5, o6, bb⟩; (obtain ⟨A5, n5, c5, rfl, _, _, _⟩ := o5.rd.form); (obtain ⟨A6, n6, c6, rfl, _, _, _⟩ := o6.rd.form); (have zb := hq.size); (replace hq := hq.below HF bb); (have bq0 := hq.q.c0); (have bq1 := hq.q.c1); (have bqz := hq.q.frozen); (have bql := hq.q.lt)))
    all_goals
     go_wp2_with fail

     generalize hwz : World.setCell (World.setCell _ _ _) _ _ = wz_
     obtain rfl : wz_ = setL wo gQ 0 [.slice A5 n5 c5, .slice A6 n6 c6] := hwz.symm
     clear hwz
     replace hq := hq.store HF (o5.mono (by omega) (Nat.le_refl _)) (o6.mono (by omega) (Nat.le_refl _))
     generalize setL wo _ 0 _ = wS at *
     go_roundw
     case rel => exact ⟨i + 1, p, _, _, _, _, _, _, _, _, by omega, by go_num, Lib.hid (Qu.good_of HGd.out (by omega) (by omega)), ⟨hq.h, hq.c.mono (by omega), hq.G, hq.r, hq.q, hq.os, hq.ow⟩⟩
     case measure => simp [intOf]
   ·go_upto_region 9 with fail
    have hCalls := HGd.out
    have hPp := Lib.hid (Qu.good_parts hCalls).1
    clear hCalls
    replace hq := hq.below HF (Below.refl _ _).drew
    have bq0 := hq.q.c0
    have bq1 := hq.q.c1
    have bqz := hq.q.frozen
    have bql := hq.q.lt
    go_region_with (first | (go_at_call 61; refine (pick_any g _ _ l 8 _ hq.h (DQ.hle HF hq) hg hq.c (by omega) (by omega)).mono ?_; rintro q_ wp ⟨y, rfl, y_0, y_1, gg, kk⟩; (replace hq := hq.pick HF gg kk); (have bq0 := hq.q.c0); (have bq1 := hq.q.c1); (have bqz := hq.q.frozen); (have bql := hq.q.lt)) | (go_at_call 91; refine (specOffer_in _ _ ls lw _ _ _ hq.os.rd hq.ow.rd (Nat.le_refl _) (Nat.le_refl _) hPp.out (inB_mk (by omega)) (inB_mk (by omega))).mono ?_; rintro q_ wo ⟨v5, v6, rfl, o5, o6, bb⟩; (obtain ⟨A5, n5, c5, rfl, _, _, _⟩ := o5.rd.form); (obtain ⟨A6, n6, c6, rfl, _, _, _⟩ := o6.rd.form); (have zb := hq.size); (replace hq := hq.below HF bb); (have bq0 := hq.q.c0); (have bq1 := hq.q.c1); (have bqz := hq.q.frozen); (have bql := hq.q.lt)))
    all_goals
     go_wp2_with fail

     generalize hwz : World.setCell (World.setCell _ _ _) _ _ = wz_
     obtain rfl : wz_ = setL wo gQ 0 [.slice A5 n5 c5, .slice A6 n6 c6] := hwz.symm
     clear hwz
     replace hq := hq.store HF (o5.mono (by omega) (Nat.le_refl _)) (o6.mono (by omega) (Nat.le_refl _))
     generalize setL wo _ 0 _ = wS at *
     go_roundw
     case rel => exact ⟨i + 1, p, _, _, _, _, _, _, _, _, by omega, by go_num, Lib.hid (Qu.good_of HGd.out (by omega) (by omega)), ⟨hq.h, hq.c.mono (by omega), hq.G, hq.r, hq.q, hq.os, hq.ow⟩⟩
     case measure => simp [intOf]
   ·go_upto_region 9 with fail
    have hCalls := HGd.out
    have hPp := Lib.hid (Qu.good_parts hCalls).1
    clear hCalls
    replace hq := hq.below HF (Below.refl _ _).drew
    have bq0 := hq.q.c0
    have bq1 := hq.q.c1
    have bqz := hq.q.frozen
    have bql := hq.q.lt
    go_region_with (first | (go_at_call 61; refine (pick_any g _ _ l 8 _ hq.h (DQ.hle HF hq) hg hq.c (by omega) (by omega)).mono ?_; rintro q_ wp ⟨y, rfl, y_0, y_1, gg, kk⟩; (replace hq := hq.pick HF gg kk); (have bq0 := hq.q.c0); (have bq1 := hq.q.c1); (have bqz := hq.q.frozen); (have bql := hq.q.lt)) | (go_at_call 91; refine (specOffer_in _ _ ls lw _ _ _ hq.os.rd hq.ow.rd (Nat.le_refl _) (Nat.le_refl _) hPp.out (inB_mk (by omega)) (inB_mk (by omega))).mono ?_; rintro q_ wo ⟨v5, v6, rfl, o5, o6, bb⟩; (obtain ⟨A5, n5, c5, rfl, _, _, _⟩ := o5.rd.form); (obtain ⟨A6, n6, c6, rfl, _, _, _⟩ := o6.rd.form); (have zb := hq.size); (replace hq := hq.below HF bb); (have bq0 := hq.q.c0); (have bq1 := hq.q.c1); (have bqz := hq.q.frozen); (have bql := hq.q.lt)))
    all_goals
     go_wp2_with fail

     generalize hwz : World.setCell (World.setCell _ _ _) _ _ = wz_
     obtain rfl : wz_ = setL wo gQ 0 [.slice A5 n5 c5, .slice A6 n6 c6] := hwz.symm
     clear hwz
     replace hq := hq.store HF (o5.mono (by omega) (Nat.le_refl _)) (o6.mono (by omega) (Nat.le_refl _))
     generalize setL wo _ 0 _ = wS at *
     go_roundw
     case rel => exact ⟨i + 1, p, _, _, _, _, _, _, _, _, by omega, by go_num, Lib.hid (Qu.good_of HGd.out (by omega) (by omega)), ⟨hq.h, hq.c.mono (by omega), hq.G, hq.r, hq.q, hq.os, hq.ow⟩⟩
     case measure => simp [intOf]
   ·have HP4 := Lib.hid (Qu.good_fit HGd.out)
    have bq0 := hq.q.c0
    have bq1 := hq.q.c1
    have bqz := hq.q.frozen
    have bql := hq.q.lt
    go_wp2_with fail
    clear bq0 bq1 bqz bql
    have zb := hq.size
    refine (specTakeQ_in _ _ ls lw 16 _ hq.os.rd hq.ow.rd (Nat.le_refl _) (Nat.le_refl _) (Qu.parts_get (Qu.good_parts HGd.out).1).1 (by have := HP4.out.2.2; omega)).mono ?_; rintro q_ wo ⟨v5, v6, rfl, o5, o6, bb⟩
    obtain ⟨A5, n5, c5, rfl, _, _, _⟩ := o5.rd.form
    obtain ⟨A6, n6, c6, rfl, _, _, _⟩ := o6.rd.form
    replace hq := hq.below HF bb
    have bq0 := hq.q.c0
    have bq1 := hq.q.c1
    have bqz := hq.q.frozen
    have bql := hq.q.lt
    go_wp2_with fail
    clear bq0 bq1 bqz bql
    generalize hwz : World.setCell (World.setCell _ _ _) _ _ = wz_
    obtain rfl : wz_ = setL wo gQ 0 [.slice A5 n5 c5, .slice A6 n6 c6] := hwz.symm
    clear hwz
    replace hq := hq.store HF (o5.mono (by omega) (Nat.le_refl _)) (o6.mono (by omega) (Nat.le_refl _))
    generalize setL wo _ 0 _ = wS at *
    go_roundw
    case rel => exact ⟨i + 1, p, _, _, _, _, _, _, _, _, by omega, by go_num, Lib.hid (Qu.good_tkL HGd.out 16), ⟨hq.h, hq.c.mono (by omega), hq.G, hq.r, hq.q, hq.os, hq.ow⟩⟩
    case measure => simp [intOf]
   ·have hPp := Lib.hid (Qu.good_parts HGd.out).1
    have bq0 := hq.q.c0
    have bq1 := hq.q.c1
    have bqz := hq.q.frozen
    have bql := hq.q.lt
    go_upto_region 13 with fail
    clear bq0 bq1 bqz bql
    go_cut [5, 6] (fun s5 s6 wx => ∃ (ww : World) (gT : Nat) (y : Int) (A5 A6 : Option Addr) (n5 c5 n6 c6 : Nat), ww = wx ∧ s5 = .pointer (some ⟨gT, 0, none⟩) ∧ s6 = .bool (Sl.endOk ls y) ∧ DQ w g cv l lo hi (k + 2 + 8 * i + 2 + 2) wx gQ (.slice A0 n0 c0) (.slice A1 n1 c1) ls lw ∧ gQ < gT ∧ Box wx gT 28 [.slice A5 n5 c5, .slice A6 n6 c6] ∧ Ow Sl.cells 3 93 wx w.heap.size wx.heap.size (.slice A5 n5 c5) (Qu.eiS ls lw y) ∧ Ow Wt.cells 2 107 wx w.heap.size wx.heap.size (.slice A6 n6 c6) (Qu.eiW ls lw y))
    case first =>
     refine wp_region_held_drew (S := fun W => Box W gQ 28 [.slice A0 n0 c0, .slice A1 n1 c1]) (by kernel_rfl) (show (fun (W : World) => Box W gQ 28 [.slice A0 n0 c0, .slice A1 n1 c1]) wp_y1.drew from hq.q.drew) (fun hHeld => ?_)
     refine wpAnyH_take (i := 0) (v := .agg #[.slice A0 n0 c0, .slice A1 n1 c1]) rfl (by kernel_rfl) (by kernel_rfl) (by kernel_rfl) (fun _ _ _ h => h) (Or.inl ⟨by rfl, by intro w hSw; have hS0 := hSw; have y00 := hS0.c0; have y01 := hS0.c1; go_simp⟩) hHeld ?_
     refine wpAnyH_take (i := 1) (v := .pointer (some ⟨g, 0, none⟩)) rfl (by kernel_rfl) (by kernel_rfl) (by kernel_rfl) (fun _ _ _ h => h) (Or.inl ⟨by rfl, by intro w hSw; have hS0 := hSw; have y00 := hS0.c0; have y01 := hS0.c1; go_simp⟩) hHeld ?_
     clear hHeld
     refine held_gen (F := fun W' => DQ w g cv l lo hi (k + 2 + 8 * i + 2) W' gQ (.slice A0 n0 c0) (.slice A1 n1 c1) ls lw) (hq.below HF (Below.refl _ _).drew) ?_
     clear hq
     rintro wh hq
     refine wpAnyH_ready (rs := [2, 7]) (by kernel_rfl) (by decide) ?_
     refine AllReadyH.cons rfl (fun K1a hK1a => ?_) (AllReadyH.cons rfl (fun K1b hK1b => ?_) AllReadyH.nil)
     ·go_simp
      refine (pick_any g _ _ l 8 _ hq.h (DQ.hle HF hq) hg hq.c (by omega) (by omega)).mono ?_; rintro q_ wp2 ⟨y2, rfl, y2_0, y2_1, gg, kk⟩
      replace hq := hq.pick HF gg kk
      clear gg kk
      refine hK1a.out _ _ hq.q (fun _ => ?_)
      refine wpAnyH_ready (rs := [3, 7]) (by kernel_rfl) (by decide) ?_
      refine AllReadyH.cons rfl (fun K2a hK2a => ?_) (AllReadyH.cons rfl (fun K2b hK2b => ?_) AllReadyH.nil)
      ·go_simp
       have zb := hq.size
       refine (specEndQ_in _ _ ls lw y2 _ hq.os.rd hq.ow.rd (Nat.le_refl _) (Nat.le_refl _) hPp.out).mono ?_; rintro q_ wo ⟨v5, v6, rfl, o5, o6, bb⟩
       obtain ⟨A5, n5, c5, rfl, _, _, _⟩ := o5.rd.form
       obtain ⟨A6, n6, c6, rfl, _, _, _⟩ := o6.rd.form
       replace hq := hq.below HF bb
       replace o5 := o5.mono zb (Nat.le_refl _)
       replace o6 := o6.mono zb (Nat.le_refl _)
       clear bb
       refine hK2a.out _ _ hq.q (fun _ => ?_)
       have hHeld : (fun (W : World) => Box W gQ 28 [.slice A0 n0 c0, .slice A1 n1 c1]) wo := hq.q
       refine wpAnyH_take (i := 4) (v := .tuple #[.agg #[.slice A5 n5 c5, .slice A6 n6 c6], .bool (Sl.endOk ls y2)]) rfl (by kernel_rfl) (by kernel_rfl) (by kernel_rfl) (fun _ _ _ h => h) (Or.inl ⟨by rfl, by intro w hSw; have hS0 := hSw; have y00 := hS0.c0; have y01 := hS0.c1; go_simp⟩) hHeld ?_
       refine wpAnyH_take (i := 5) (v := .agg #[.slice A5 n5 c5, .slice A6 n6 c6]) rfl (by kernel_rfl) (by kernel_rfl) (by kernel_rfl) (fun _ _ _ h => h) (Or.inl ⟨by rfl, by intro w hSw; have hS0 := hSw; have y00 := hS0.c0; have y01 := hS0.c1; go_simp⟩) hHeld ?_
       refine wpAnyH_take (i := 6) (v := .bool (Sl.endOk ls y2)) rfl (by kernel_rfl) (by kernel_rfl) (by kernel_rfl) (fun _ _ _ h => h) (Or.inl ⟨by rfl, by intro w hSw; have hS0 := hSw; have y00 := hS0.c0; have y01 := hS0.c1; go_simp⟩) hHeld ?_
       clear hHeld
       refine wpAnyH_ready (rs := [7]) (by kernel_rfl) (by decide) ?_
       refine AllReadyH.cons rfl (fun K3 hK3 => ?_) AllReadyH.nil
       go_simp
       obtain ⟨hqa, bT, hbT, bb⟩ := hq.boxed HF
       replace hq := hqa
       clear hqa
       replace o5 := (o5.below bb (Nat.le_refl _)).mono (Nat.le_refl _) bb.size
       replace o6 := (o6.below bb (Nat.le_refl _)).mono (Nat.le_refl _) bb.size
       clear bb
       generalize wo.alloc _ = wa at *
       generalize wo.heap.size = gT at *
       refine hK3.out _ _ hq.q (fun _ => ?_)
       refine wpAnyH_ready (rs := [8]) (by kernel_rfl) (by decide) ?_
       refine AllReadyH.cons rfl (fun K4 hK4 => ?_) AllReadyH.nil
       have bt0 := bT.c0
       have bt1 := bT.c1
       have btz := bT.frozen
       have btl := bT.lt
       go_simp
       clear bt0 bt1 btz btl
       generalize hwz : World.setCell (World.setCell _ _ _) _ _ = wz_
       obtain rfl : wz_ = setL wa gT 0 [.slice A5 n5 c5, .slice A6 n6 c6] := hwz.symm
       clear hwz
       replace hq := hq.other HF bT (by omega) (by omega) 0 [.slice A5 n5 c5, .slice A6 n6 c6]
       have zS : (setL wa gT 0 [.slice A5 n5 c5, .slice A6 n6 c6]).heap.size = wa.heap.size := setL_size _ _ _ _
       replace o5 := (o5.box bT (by decide) 0 [.slice A5 n5 c5, .slice A6 n6 c6]).mono (Nat.le_refl _) (Nat.le_of_eq zS.symm)
       replace o6 := (o6.box bT (by decide) 0 [.slice A5 n5 c5, .slice A6 n6 c6]).mono (Nat.le_refl _) (Nat.le_of_eq zS.symm)
       replace bT := bT.setAll [.slice A5 n5 c5, .slice A6 n6 c6] rfl
       clear zS
       generalize setL wa _ 0 _ = wt at *
       refine hK4.out _ _ hq.q (fun _ => ?_)
       refine wpAnyH_ready (rs := [9]) (by kernel_rfl) (by decide) ?_
       refine AllReadyH.cons rfl (fun K5 hK5 => ?_) AllReadyH.nil
       go_simp
       refine hK5.out _ _ hq.q (fun _ => ?_)
       refine ⟨by kernel_rfl, ?_⟩
       go_wp2_with fail
       go_meet
       exact ⟨_, gT, y2, _, _, _, _, _, _, rfl, rfl, rfl, hq, hbT, bT, o5, o6⟩
      ·go_simp
       obtain ⟨hqa, bT, hbT, bb⟩ := hq.boxed HF
       replace hq := hqa
       clear hqa
       clear bb
       generalize wp2.alloc _ = wa at *
       generalize wp2.heap.size = gT at *
       refine hK2b.out _ _ hq.q (fun _ => ?_)
       refine wpAnyH_ready (rs := [3]) (by kernel_rfl) (by decide) ?_
       refine AllReadyH.cons rfl (fun K6 hK6 => ?_) AllReadyH.nil
       go_simp
       have zb := hq.size
       refine (specEndQ_in _ _ ls lw y2 _ hq.os.rd hq.ow.rd (Nat.le_refl _) (Nat.le_refl _) hPp.out).mono ?_; rintro q_ wo ⟨v5, v6, rfl, o5, o6, bb⟩
       obtain ⟨A5, n5, c5, rfl, _, _, _⟩ := o5.rd.form
       obtain ⟨A6, n6, c6, rfl, _, _, _⟩ := o6.rd.form
       replace hq := hq.below HF bb
       replace o5 := o5.mono zb (Nat.le_refl _)
       replace o6 := o6.mono zb (Nat.le_refl _)
       replace bT := bT.below bb bT.lt
       clear bb
       refine hK6.out _ _ hq.q (fun _ => ?_)
       have hHeld : (fun (W : World) => Box W gQ 28 [.slice A0 n0 c0, .slice A1 n1 c1]) wo := hq.q
       refine wpAnyH_take (i := 4) (v := .tuple #[.agg #[.slice A5 n5 c5, .slice A6 n6 c6], .bool (Sl.endOk ls y2)]) rfl (by kernel_rfl) (by kernel_rfl) (by kernel_rfl) (fun _ _ _ h => h) (Or.inl ⟨by rfl, by intro w hSw; have hS0 := hSw; have y00 := hS0.c0; have y01 := hS0.c1; go_simp⟩) hHeld ?_
       refine wpAnyH_take (i := 5) (v := .agg #[.slice A5 n5 c5, .slice A6 n6 c6]) rfl (by kernel_rfl) (by kernel_rfl) (by kernel_rfl) (fun _ _ _ h => h) (Or.inl ⟨by rfl, by intro w hSw; have hS0 := hSw; have y00 := hS0.c0; have y01 := hS0.c1; go_simp⟩) hHeld ?_
       refine wpAnyH_take (i := 6) (v := .bool (Sl.endOk ls y2)) rfl (by kernel_rfl) (by kernel_rfl) (by kernel_rfl) (fun _ _ _ h => h) (Or.inl ⟨by rfl, by intro w hSw; have hS0 := hSw; have y00 := hS0.c0; have y01 := hS0.c1; go_simp⟩) hHeld ?_
       clear hHeld
       refine wpAnyH_ready (rs := [8]) (by kernel_rfl) (by decide) ?_
       refine AllReadyH.cons rfl (fun K7 hK7 => ?_) AllReadyH.nil
       have bt0 := bT.c0
       have bt1 := bT.c1
       have btz := bT.frozen
       have btl := bT.lt
       go_simp
       clear bt0 bt1 btz btl
       generalize hwz : World.setCell (World.setCell _ _ _) _ _ = wz_
       obtain rfl : wz_ = setL wo gT 0 [.slice A5 n5 c5, .slice A6 n6 c6] := hwz.symm
       clear hwz
       replace hq := hq.other HF bT (by omega) (by omega) 0 [.slice A5 n5 c5, .slice A6 n6 c6]
       have zS : (setL wo gT 0 [.slice A5 n5 c5, .slice A6 n6 c6]).heap.size = wo.heap.size := setL_size _ _ _ _
       replace o5 := (o5.box bT (by decide) 0 [.slice A5 n5 c5, .slice A6 n6 c6]).mono (Nat.le_refl _) (Nat.le_of_eq zS.symm)
       replace o6 := (o6.box bT (by decide) 0 [.slice A5 n5 c5, .slice A6 n6 c6]).mono (Nat.le_refl _) (Nat.le_of_eq zS.symm)
       replace bT := bT.setAll [.slice A5 n5 c5, .slice A6 n6 c6] rfl
       clear zS
       generalize setL wo _ 0 _ = wt at *
       refine hK7.out _ _ hq.q (fun _ => ?_)
       refine wpAnyH_ready (rs := [9]) (by kernel_rfl) (by decide) ?_
       refine AllReadyH.cons rfl (fun K8 hK8 => ?_) AllReadyH.nil
       go_simp
       refine hK8.out _ _ hq.q (fun _ => ?_)
       refine ⟨by kernel_rfl, ?_⟩
       go_wp2_with fail
       go_meet
       exact ⟨_, gT, y2, _, _, _, _, _, _, rfl, rfl, rfl, hq, hbT, bT, o5, o6⟩
     ·go_simp
      obtain ⟨hqa, bT, hbT, bb⟩ := hq.boxed HF
      replace hq := hqa
      clear hqa
      clear bb
      generalize wh.alloc _ = wa at *
      generalize wh.heap.size = gT at *
      refine hK1b.out _ _ hq.q (fun _ => ?_)
      refine wpAnyH_ready (rs := [2]) (by kernel_rfl) (by decide) ?_
      refine AllReadyH.cons rfl (fun K9 hK9 => ?_) AllReadyH.nil
      go_simp
      refine (pick_any g _ _ l 8 _ hq.h (DQ.hle HF hq) hg hq.c (by omega) (by omega)).mono ?_; rintro q_ wp2 ⟨y2, rfl, y2_0, y2_1, gg, kk⟩
      replace hq := hq.pick HF gg kk
      replace bT := bT.keep (gg.block _ bT.lt (fun e => by injection e with e; omega))
      clear gg kk
      refine hK9.out _ _ hq.q (fun _ => ?_)
      refine wpAnyH_ready (rs := [3]) (by kernel_rfl) (by decide) ?_
      refine AllReadyH.cons rfl (fun K10 hK10 => ?_) AllReadyH.nil
      go_simp
      have zb := hq.size
      refine (specEndQ_in _ _ ls lw y2 _ hq.os.rd hq.ow.rd (Nat.le_refl _) (Nat.le_refl _) hPp.out).mono ?_; rintro q_ wo ⟨v5, v6, rfl, o5, o6, bb⟩
      obtain ⟨A5, n5, c5, rfl, _, _, _⟩ := o5.rd.form
      obtain ⟨A6, n6, c6, rfl, _, _, _⟩ := o6.rd.form
      replace hq := hq.below HF bb
      replace o5 := o5.mono zb (Nat.le_refl _)
      replace o6 := o6.mono zb (Nat.le_refl _)
      replace bT := bT.below bb bT.lt
      clear bb
      refine hK10.out _ _ hq.q (fun _ => ?_)
      have hHeld : (fun (W : World) => Box W gQ 28 [.slice A0 n0 c0, .slice A1 n1 c1]) wo := hq.q
      refine wpAnyH_take (i := 4) (v := .tuple #[.agg #[.slice A5 n5 c5, .slice A6 n6 c6], .bool (Sl.endOk ls y2)]) rfl (by kernel_rfl) (by kernel_rfl) (by kernel_rfl) (fun _ _ _ h => h) (Or.inl ⟨by rfl, by intro w hSw; have hS0 := hSw; have y00 := hS0.c0; have y01 := hS0.c1; go_simp⟩) hHeld ?_
      refine wpAnyH_take (i := 5) (v := .agg #[.slice A5 n5 c5, .slice A6 n6 c6]) rfl (by kernel_rfl) (by kernel_rfl) (by kernel_rfl) (fun _ _ _ h => h) (Or.inl ⟨by rfl, by intro w hSw; have hS0 := hSw; have y00 := hS0.c0; have y01 := hS0.c1; go_simp⟩) hHeld ?_
      refine wpAnyH_take (i := 6) (v := .bool (Sl.endOk ls y2)) rfl (by kernel_rfl) (by kernel_rfl) (by kernel_rfl) (fun _ _ _ h => h) (Or.inl ⟨by rfl, by intro w hSw; have hS0 := hSw; have y00 := hS0.c0; have y01 := hS0.c1; go_simp⟩) hHeld ?_
      clear hHeld
      refine wpAnyH_ready (rs := [8]) (by kernel_rfl) (by decide) ?_
      refine AllReadyH.cons rfl (fun K11 hK11 => ?_) AllReadyH.nil
      have bt0 := bT.c0
      have bt1 := bT.c1
      have btz := bT.frozen
      have btl := bT.lt
      go_simp
      clear bt0 bt1 btz btl
      generalize hwz : World.setCell (World.setCell _ _ _) _ _ = wz_
      obtain rfl : wz_ = setL wo gT 0 [.slice A5 n5 c5, .slice A6 n6 c6] := hwz.symm
      clear hwz
      replace hq := hq.other HF bT (by omega) (by omega) 0 [.slice A5 n5 c5, .slice A6 n6 c6]
      have zS : (setL wo gT 0 [.slice A5 n5 c5, .slice A6 n6 c6]).heap.size = wo.heap.size := setL_size _ _ _ _
      replace o5 := (o5.box bT (by decide) 0 [.slice A5 n5 c5, .slice A6 n6 c6]).mono (Nat.le_refl _) (Nat.le_of_eq zS.symm)
      replace o6 := (o6.box bT (by decide) 0 [.slice A5 n5 c5, .slice A6 n6 c6]).mono (Nat.le_refl _) (Nat.le_of_eq zS.symm)
      replace bT := bT.setAll [.slice A5 n5 c5, .slice A6 n6 c6] rfl
      clear zS
      generalize setL wo _ 0 _ = wt at *
      refine hK11.out _ _ hq.q (fun _ => ?_)
      refine wpAnyH_ready (rs := [9]) (by kernel_rfl) (by decide) ?_
      refine AllReadyH.cons rfl (fun K12 hK12 => ?_) AllReadyH.nil
      go_simp
      refine hK12.out _ _ hq.q (fun _ => ?_)
      refine ⟨by kernel_rfl, ?_⟩
      go_wp2_with fail
      go_meet
      exact ⟨_, gT, y2, _, _, _, _, _, _, rfl, rfl, rfl, hq, hbT, bT, o5, o6⟩
    case rest =>
     obtain ⟨wx, gT, y, A5, A6, n5, c5, n6, c6, rfl, rfl, rfl, hq, zT, bT, o5, o6⟩ := hcut
     cases hk : Sl.endOk ls y
     ·clear hk bT o5 o6
      have bq0 := hq.q.c0
      have bq1 := hq.q.c1
      have bqz := hq.q.frozen
      have bql := hq.q.lt
      go_wp2_with fail
      clear bq0 bq1 bqz bql
      go_roundw
      case rel => exact ⟨i + 1, p, ls, lw, _, _, _, _, _, _, by omega, by go_num, HGd, ⟨hq.h, hq.c.mono (by omega), hq.G, hq.r, hq.q, hq.os, hq.ow⟩⟩
      case measure => simp [intOf]
     ·have HG2 := Lib.hid (Qu.good_ei HGd.out hk)
      clear hk
      have bt0 := bT.c0
      have bt1 := bT.c1
      have btz := bT.frozen
      have btl := bT.lt
      have bq0 := hq.q.c0
      have bq1 := hq.q.c1
      have bqz := hq.q.frozen
      have bql := hq.q.lt
      go_wp2_with fail
      clear bq0 bq1 bqz bql
      clear bt0 bt1 btz btl
      generalize hwz : World.setCell (World.setCell _ _ _) _ _ = wz_
      obtain rfl : wz_ = setL wx gQ 0 [.slice A5 n5 c5, .slice A6 n6 c6] := hwz.symm
      clear hwz
      replace hq := hq.store HF o5 o6
      generalize setL wx _ 0 _ = wS at *
      go_roundw
      case rel => exact ⟨i + 1, p, _, _, _, _, _, _, _, _, by omega, by go_num, HG2, ⟨hq.h, hq.c.mono (by omega), hq.G, hq.r, hq.q, hq.os, hq.ow⟩⟩
      case measure => simp [intOf]
  obtain rfl : i = m := by omega
  subst hz
  have HFt := Lib.hid (Qu.good_fit HGd.out)
  obtain rfl : n0 = 4 := by have := hq.os.rd.n_eq.1; rw [this]; exact HFt.out.2.1
  have hn8 : n1 ≤ 8 := by have := hq.ow.rd.n_eq.1; rw [this]; exact HFt.out.2.2
  have hnw := Lib.hid hq.ow.rd.n_eq.1
  have bq0 := hq.q.c0
  have bq1 := hq.q.c1
  have bqz := hq.q.frozen
  have bql := hq.q.lt
  go_wp2_with fail
  clear bq0 bq1 bqz bql
  refine (pick_any g _ _ l 24 _ hq.h (DQ.hle HF hq) hg hq.c (by omega) (by omega)).mono ?_; rintro q_ wp_z1 ⟨z1, rfl, z1_0, z1_1, gg, kk⟩
  replace hq := hq.pick HF gg kk
  clear gg kk
  by_cases h0 : z1 = 0
  rotate_left
  by_cases h1 : z1 = 1
  rotate_left
  by_cases h2 : z1 = 2
  rotate_left
  ·have h0b : (z1 == 0) = false := by rw [beq_eq_false_iff_ne]; exact h0
   have h1b : (z1 == 1) = false := by rw [beq_eq_false_iff_ne]; exact h1
   have h2b : (z1 == 2) = false := by rw [beq_eq_false_iff_ne]; exact h2
   have bq0 := hq.q.c0
   have bq1 := hq.q.c1
   have bqz := hq.q.frozen
   have bql := hq.q.lt
   have br0 := hq.r.c0
   have br1 := hq.r.c1
   have brz := hq.r.frozen
   have brl := hq.r.lt
   go_wp2_with fail
   clear br0 br1 brz brl
   clear bq0 bq1 bqz bql
   generalize hwz : World.setCell (World.setCell _ _ _) _ _ = wz_
   obtain rfl : wz_ = setL wp_z1 (w.heap.size) 0 [.slice A0 4 c0, .slice A1 n1 c1] := hwz.symm
   clear hwz
   have o1 := hq.os.box hq.r (by decide) 0 [.slice A0 4 c0, .slice A1 n1 c1]
   have o2 := hq.ow.box hq.r (by decide) 0 [.slice A0 4 c0, .slice A1 n1 c1]
   have gS := setL_grown [.slice A0 4 c0, .slice A1 n1 c1] wp_z1 (w.heap.size) 0
   have hG := grown_new hq.G gS (fun q e => by injection e with e; omega)
   have hc := hq.c.other gS (by omega)
   have bR := hq.r.setAll [.slice A0 4 c0, .slice A1 n1 c1] rfl
   have zS : (setL wp_z1 (w.heap.size) 0 [.slice A0 4 c0, .slice A1 n1 c1]).heap.size = wp_z1.heap.size := setL_size _ _ _ _
   generalize setL wp_z1 _ 0 _ = wE at *
   have u0_ := bR.c0
   have u1_ := bR.c1
   refine bodyPost_ret (by simp only [results, Tryz.results89]; simp [go_sem, u0_, u1_]; rfl) rfl ?_
   have F5 := (show ls.length ≤ 5 by have := HFt.out.2.1; omega)
   have F9 := (show lw.length ≤ 9 by have := HFt.out.2.2; omega)
   have O1 := o1.mono (Nat.le_refl _) (Nat.le_of_eq zS.symm)
   have O2 := o2.mono (Nat.le_refl _) (Nat.le_of_eq zS.symm)
   first | exact ⟨_, _, _, _, rfl, HFt.out.1, F5, F9, O1, O2, hG, hc.mono (by omega)⟩ | exact ⟨_, _, rfl, _, HFt.out.1, F5, _, F9, O1, O2, hG, hc.mono (by omega)⟩
  ·subst h0
   have bq0 := hq.q.c0
   have bq1 := hq.q.c1
   have bqz := hq.q.frozen
   have bql := hq.q.lt
   go_wp2_with fail
   clear bq0 bq1 bqz bql
   have zb := hq.size
   refine (slots_any g _ _ l _ hq.h (DQ.hle HF hq) hg hq.c (by omega)).mono ?_; rintro q_ wo ⟨v5, l5, rfl, n5_, d5_, o5, gg, kk⟩
   obtain ⟨A5, n5, c5, rfl, _, _, _⟩ := o5.rd.form
   replace hq := hq.pick HF gg kk
   clear gg kk
   have bq0 := hq.q.c0
   have bq1 := hq.q.c1
   have bqz := hq.q.frozen
   have bql := hq.q.lt
   have br0 := hq.r.c0
   have br1 := hq.r.c1
   have brz := hq.r.frozen
   have brl := hq.r.lt
   go_upto_region 24 with fail
   clear br0 br1 brz brl bq0 bq1 bqz bql
   generalize hwz : World.setCell _ _ _ = wz_
   obtain rfl : wz_ = setL wo gQ 0 [.slice A5 n5 c5] := hwz.symm
   clear hwz
   replace hq := hq.store1 HF (o5.mono zb (Nat.le_refl _))
   generalize setL wo _ 0 _ = wS at *
   have bq0 := hq.q.c0
   have bq1 := hq.q.c1
   have bqz := hq.q.frozen
   have bql := hq.q.lt
   have br0 := hq.r.c0
   have br1 := hq.r.c1
   have brz := hq.r.frozen
   have brl := hq.r.lt
   go_wp2_with fail
   clear br0 br1 brz brl
   clear bq0 bq1 bqz bql
   generalize hwz : World.setCell (World.setCell _ _ _) _ _ = wz_
   obtain rfl : wz_ = setL wS (w.heap.size) 0 [.slice A5 n5 c5, .slice A1 n1 c1] := hwz.symm
   clear hwz
   have o1 := hq.os.box hq.r (by decide) 0 [.slice A5 n5 c5, .slice A1 n1 c1]
   have o2 := hq.ow.box hq.r (by decide) 0 [.slice A5 n5 c5, .slice A1 n1 c1]
   have gS := setL_grown [.slice A5 n5 c5, .slice A1 n1 c1] wS (w.heap.size) 0
   have hG := grown_new hq.G gS (fun q e => by injection e with e; omega)
   have hc := hq.c.other gS (by omega)
   have bR := hq.r.setAll [.slice A5 n5 c5, .slice A1 n1 c1] rfl
   have zS : (setL wS (w.heap.size) 0 [.slice A5 n5 c5, .slice A1 n1 c1]).heap.size = wS.heap.size := setL_size _ _ _ _
   generalize setL wS _ 0 _ = wE at *
   have u0_ := bR.c0
   have u1_ := bR.c1
   refine bodyPost_ret (by simp only [results, Tryz.results89]; simp [go_sem, u0_, u1_]; rfl) rfl ?_
   have F5 := n5_
   have F9 := (show lw.length ≤ 9 by have := HFt.out.2.2; omega)
   have O1 := o1.mono (Nat.le_refl _) (Nat.le_of_eq zS.symm)
   have O2 := o2.mono (Nat.le_refl _) (Nat.le_of_eq zS.symm)
   first | exact ⟨_, _, _, _, rfl, d5_, F5, F9, O1, O2, hG, hc.mono (by omega)⟩ | exact ⟨_, _, rfl, _, d5_, F5, _, F9, O1, O2, hG, hc.mono (by omega)⟩
  ·subst h1
   have bq0 := hq.q.c0
   have bq1 := hq.q.c1
   have bqz := hq.q.frozen
   have bql := hq.q.lt
   go_upto_region 20 with fail
   clear bq0 bq1 bqz bql
   refine wp_region_held_drew (S := fun _ => True) (by kernel_rfl) trivial (fun hHeld => ?_)
   refine wpAnyH_take (i := 0) (v := .pointer (some ⟨gQ, 1, none⟩)) rfl (by kernel_rfl) (by kernel_rfl) (by kernel_rfl) (fun _ _ _ h => h) (Or.inl ⟨by rfl, by intro w hSw; go_simp⟩) hHeld ?_
   refine wpAnyH_take (i := 2) (v := .pointer (some ⟨g, 0, none⟩)) rfl (by kernel_rfl) (by kernel_rfl) (by kernel_rfl) (fun _ _ _ h => h) (Or.inl ⟨by rfl, by intro w hSw; go_simp⟩) hHeld ?_
   refine wpAnyH_take (i := 4) (v := .pointer (some ⟨g, 0, none⟩)) rfl (by kernel_rfl) (by kernel_rfl) (by kernel_rfl) (fun _ _ _ h => h) (Or.inl ⟨by rfl, by intro w hSw; go_simp⟩) hHeld ?_
   clear hHeld
   refine held_gen (F := fun W' => DQ w g cv l lo hi (k + 2 + 8 * i + 2) W' gQ (.slice A0 4 c0) (.slice A1 n1 c1) ls lw) (hq.below HF (Below.refl _ _).drew) ?_
   clear hq
   rintro wh hq
   refine wpAnyH_ready (rs := [1, 3]) (by kernel_rfl) (by decide) ?_
   refine AllReadyH.cons rfl (fun K13a hK13a => ?_) (AllReadyH.cons rfl (fun K13b hK13b => ?_) AllReadyH.nil)
   ·have bq0 := hq.q.c0
    have bq1 := hq.q.c1
    have bqz := hq.q.frozen
    have bql := hq.q.lt
    go_simp
    clear bq0 bq1 bqz bql
    refine hK13a.out _ _ trivial (fun _ => ?_)
    refine wpAnyH_ready (rs := [3]) (by kernel_rfl) (by decide) ?_
    refine AllReadyH.cons rfl (fun K14 hK14 => ?_) AllReadyH.nil
    go_simp
    refine (irq_any g _ _ l _ hq.h (DQ.hle HF hq) hg hq.c (by omega)).mono ?_; rintro q_ w_yi ⟨yi, rfl, gg, kk⟩
    replace hq := hq.pick HF gg kk
    clear gg kk
    refine hK14.out _ _ trivial (fun _ => ?_)
    refine wpAnyH_ready (rs := [5]) (by kernel_rfl) (by decide) ?_
    refine AllReadyH.cons rfl (fun K15 hK15 => ?_) AllReadyH.nil
    go_simp
    refine (prio_any g _ _ l _ hq.h (DQ.hle HF hq) hg hq.c (by omega)).mono ?_; rintro q_ w_yp ⟨yp, rfl, gg, kk⟩
    replace hq := hq.pick HF gg kk
    clear gg kk
    refine hK15.out _ _ trivial (fun _ => ?_)
    have hHeld : (fun (_ : World) => True) w_yp := trivial
    refine wpAnyH_take (i := 6) (v := .agg #[.int .i64 yi, .int .i64 yp]) rfl (by kernel_rfl) (by kernel_rfl) (by kernel_rfl) (fun _ _ _ h => h) (Or.inl ⟨by rfl, by intro w hSw; go_simp⟩) hHeld ?_
    clear hHeld
    refine wpAnyH_ready (rs := [7]) (by kernel_rfl) (by decide) ?_
    refine AllReadyH.cons rfl (fun K16 hK16 => ?_) AllReadyH.nil
    go_simp
    have bb := (Below.refl w_yp.heap.size w_yp).alloc (Nat.le_refl _) (.cells #[.int .i64 yi, .int .i64 yp] 107)
    have bN := Box.new w_yp #[.int .i64 yi, .int .i64 yp] 107 rfl
    have hzN := hq.q.lt
    replace hq := hq.below HF bb
    clear bb
    generalize w_yp.alloc _ = wa at *
    generalize w_yp.heap.size = gN at *
    refine hK16.out _ _ trivial (fun _ => ?_)
    refine wpAnyH_ready (rs := [8]) (by kernel_rfl) (by decide) ?_
    refine AllReadyH.cons rfl (fun K17 hK17 => ?_) AllReadyH.nil
    refine Wt.appK_ow rfl _ _ rfl rfl hq.ow gN 1 ⟨yi, yp⟩ rfl (fun j u hu => by rcases j with _ | _ | j <;> simp [Wt.cells] at hu <;> subst hu <;> first | exact bN.c0 | exact bN.c1) (by omega) hq.size (Nat.le_refl _) ?_
    intro v8 w8 row8 o8 g8 r8
    obtain ⟨A8, n8, c8, rfl, _, _, _⟩ := o8.rd.form
    have bq8 := hq.app_box g8 r8
    replace hq := hq.app HF g8 r8 o8
    refine hK17.out _ _ trivial (fun _ => ?_)
    have hHeld : (fun (_ : World) => True) w8 := trivial
    refine wpAnyH_take (i := 9) (v := .pointer (some ⟨gQ, 1, none⟩)) rfl (by kernel_rfl) (by kernel_rfl) (by kernel_rfl) (fun _ _ _ h => h) (Or.inl ⟨by rfl, by intro w hSw; go_simp⟩) hHeld ?_
    clear hHeld
    refine wpAnyH_ready (rs := [10]) (by kernel_rfl) (by decide) ?_
    refine AllReadyH.cons rfl (fun K18 hK18 => ?_) AllReadyH.nil
    have bq0 := bq8.c0
    have bq1 := bq8.c1
    have bqz := bq8.frozen
    have bql := bq8.lt
    go_simp
    clear bq0 bq1 bqz bql bq8
    generalize hwz : World.setCell _ _ _ = wz_
    obtain rfl : wz_ = setL w8 gQ 1 [.slice A8 n8 c8] := hwz.symm
    clear hwz
    generalize setL w8 _ 1 _ = wS at *
    refine hK18.out _ _ trivial (fun _ => ?_)
    refine ⟨by kernel_rfl, ?_⟩
    have bq0 := hq.q.c0
    have bq1 := hq.q.c1
    have bqz := hq.q.frozen
    have bql := hq.q.lt
    have br0 := hq.r.c0
    have br1 := hq.r.c1
    have brz := hq.r.frozen
    have brl := hq.r.lt
    go_wp2_with fail
    clear br0 br1 brz brl
    clear bq0 bq1 bqz bql
    generalize hwz : World.setCell (World.setCell _ _ _) _ _ = wz_
    obtain rfl : wz_ = setL wS (w.heap.size) 0 [.slice A0 4 c0, .slice A8 n8 c8] := hwz.symm
    clear hwz
    have o1 := hq.os.box hq.r (by decide) 0 [.slice A0 4 c0, .slice A8 n8 c8]
    have o2 := hq.ow.box hq.r (by decide) 0 [.slice A0 4 c0, .slice A8 n8 c8]
    have gS := setL_grown [.slice A0 4 c0, .slice A8 n8 c8] wS (w.heap.size) 0
    have hG := grown_new hq.G gS (fun q e => by injection e with e; omega)
    have hc := hq.c.other gS (by omega)
    have bR := hq.r.setAll [.slice A0 4 c0, .slice A8 n8 c8] rfl
    have zS : (setL wS (w.heap.size) 0 [.slice A0 4 c0, .slice A8 n8 c8]).heap.size = wS.heap.size := setL_size _ _ _ _
    generalize setL wS _ 0 _ = wE at *
    have u0_ := bR.c0
    have u1_ := bR.c1
    refine bodyPost_ret (by simp only [results, Tryz.results89]; simp [go_sem, u0_, u1_]; rfl) rfl ?_
    have F5 := (show ls.length ≤ 5 by have := HFt.out.2.1; omega)
    have F9 := (show (lw ++ [(⟨yi, yp⟩ : Wt)]).length ≤ 9 by have := HFt.out.2.2; simp; omega)
    have O1 := o1.mono (Nat.le_refl _) (Nat.le_of_eq zS.symm)
    have O2 := o2.mono (Nat.le_refl _) (Nat.le_of_eq zS.symm)
    first | exact ⟨_, _, _, _, rfl, HFt.out.1, F5, F9, O1, O2, hG, hc.mono (by omega)⟩ | exact ⟨_, _, rfl, _, HFt.out.1, F5, _, F9, O1, O2, hG, hc.mono (by omega)⟩
   ·go_simp
    refine (irq_any g _ _ l _ hq.h (DQ.hle HF hq) hg hq.c (by omega)).mono ?_; rintro q_ w_yi ⟨yi, rfl, gg, kk⟩
    replace hq := hq.pick HF gg kk
    clear gg kk
    refine hK13b.out _ _ trivial (fun _ => ?_)
    refine wpAnyH_ready (rs := [1, 5]) (by kernel_rfl) (by decide) ?_
    refine AllReadyH.cons rfl (fun K19a hK19a => ?_) (AllReadyH.cons rfl (fun K19b hK19b => ?_) AllReadyH.nil)
    ·have bq0 := hq.q.c0
     have bq1 := hq.q.c1
     have bqz := hq.q.frozen
     have bql := hq.q.lt
     go_simp
     clear bq0 bq1 bqz bql
     refine hK19a.out _ _ trivial (fun _ => ?_)
     refine wpAnyH_ready (rs := [5]) (by kernel_rfl) (by decide) ?_
     refine AllReadyH.cons rfl (fun K20 hK20 => ?_) AllReadyH.nil
     go_simp
     refine (prio_any g _ _ l _ hq.h (DQ.hle HF hq) hg hq.c (by omega)).mono ?_; rintro q_ w_yp ⟨yp, rfl, gg, kk⟩
     replace hq := hq.pick HF gg kk
     clear gg kk
     refine hK20.out _ _ trivial (fun _ => ?_)
     have hHeld : (fun (_ : World) => True) w_yp := trivial
     refine wpAnyH_take (i := 6) (v := .agg #[.int .i64 yi, .int .i64 yp]) rfl (by kernel_rfl) (by kernel_rfl) (by kernel_rfl) (fun _ _ _ h => h) (Or.inl ⟨by rfl, by intro w hSw; go_simp⟩) hHeld ?_
     clear hHeld
     refine wpAnyH_ready (rs := [7]) (by kernel_rfl) (by decide) ?_
     refine AllReadyH.cons rfl (fun K21 hK21 => ?_) AllReadyH.nil
     go_simp
     have bb := (Below.refl w_yp.heap.size w_yp).alloc (Nat.le_refl _) (.cells #[.int .i64 yi, .int .i64 yp] 107)
     have bN := Box.new w_yp #[.int .i64 yi, .int .i64 yp] 107 rfl
     have hzN := hq.q.lt
     replace hq := hq.below HF bb
     clear bb
     generalize w_yp.alloc _ = wa at *
     generalize w_yp.heap.size = gN at *
     refine hK21.out _ _ trivial (fun _ => ?_)
     refine wpAnyH_ready (rs := [8]) (by kernel_rfl) (by decide) ?_
     refine AllReadyH.cons rfl (fun K22 hK22 => ?_) AllReadyH.nil
     refine Wt.appK_ow rfl _ _ rfl rfl hq.ow gN 1 ⟨yi, yp⟩ rfl (fun j u hu => by rcases j with _ | _ | j <;> simp [Wt.cells] at hu <;> subst hu <;> first | exact bN.c0 | exact bN.c1) (by omega) hq.size (Nat.le_refl _) ?_
     intro v8 w8 row8 o8 g8 r8
     obtain ⟨A8, n8, c8, rfl, _, _, _⟩ := o8.rd.form
     have bq8 := hq.app_box g8 r8
     replace hq := hq.app HF g8 r8 o8
     refine hK22.out _ _ trivial (fun _ => ?_)
     have hHeld : (fun (_ : World) => True) w8 := trivial
     refine wpAnyH_take (i := 9) (v := .pointer (some ⟨gQ, 1, none⟩)) rfl (by kernel_rfl) (by kernel_rfl) (by kernel_rfl) (fun _ _ _ h => h) (Or.inl ⟨by rfl, by intro w hSw; go_simp⟩) hHeld ?_
     clear hHeld
     refine wpAnyH_ready (rs := [10]) (by kernel_rfl) (by decide) ?_
     refine AllReadyH.cons rfl (fun K23 hK23 => ?_) AllReadyH.nil
     have bq0 := bq8.c0
     have bq1 := bq8.c1
     have bqz := bq8.frozen
     have bql := bq8.lt
     go_simp
     clear bq0 bq1 bqz bql bq8
     generalize hwz : World.setCell _ _ _ = wz_
     obtain rfl : wz_ = setL w8 gQ 1 [.slice A8 n8 c8] := hwz.symm
     clear hwz
     generalize setL w8 _ 1 _ = wS at *
     refine hK23.out _ _ trivial (fun _ => ?_)
     refine ⟨by kernel_rfl, ?_⟩
     have bq0 := hq.q.c0
     have bq1 := hq.q.c1
     have bqz := hq.q.frozen
     have bql := hq.q.lt
     have br0 := hq.r.c0
     have br1 := hq.r.c1
     have brz := hq.r.frozen
     have brl := hq.r.lt
     go_wp2_with fail
     clear br0 br1 brz brl
     clear bq0 bq1 bqz bql
     generalize hwz : World.setCell (World.setCell _ _ _) _ _ = wz_
     obtain rfl : wz_ = setL wS (w.heap.size) 0 [.slice A0 4 c0, .slice A8 n8 c8] := hwz.symm
     clear hwz
     have o1 := hq.os.box hq.r (by decide) 0 [.slice A0 4 c0, .slice A8 n8 c8]
     have o2 := hq.ow.box hq.r (by decide) 0 [.slice A0 4 c0, .slice A8 n8 c8]
     have gS := setL_grown [.slice A0 4 c0, .slice A8 n8 c8] wS (w.heap.size) 0
     have hG := grown_new hq.G gS (fun q e => by injection e with e; omega)
     have hc := hq.c.other gS (by omega)
     have bR := hq.r.setAll [.slice A0 4 c0, .slice A8 n8 c8] rfl
     have zS : (setL wS (w.heap.size) 0 [.slice A0 4 c0, .slice A8 n8 c8]).heap.size = wS.heap.size := setL_size _ _ _ _
     generalize setL wS _ 0 _ = wE at *
     have u0_ := bR.c0
     have u1_ := bR.c1
     refine bodyPost_ret (by simp only [results, Tryz.results89]; simp [go_sem, u0_, u1_]; rfl) rfl ?_
     have F5 := (show ls.length ≤ 5 by have := HFt.out.2.1; omega)
     have F9 := (show (lw ++ [(⟨yi, yp⟩ : Wt)]).length ≤ 9 by have := HFt.out.2.2; simp; omega)
     have O1 := o1.mono (Nat.le_refl _) (Nat.le_of_eq zS.symm)
     have O2 := o2.mono (Nat.le_refl _) (Nat.le_of_eq zS.symm)
     first | exact ⟨_, _, _, _, rfl, HFt.out.1, F5, F9, O1, O2, hG, hc.mono (by omega)⟩ | exact ⟨_, _, rfl, _, HFt.out.1, F5, _, F9, O1, O2, hG, hc.mono (by omega)⟩
    ·go_simp
     refine (prio_any g _ _ l _ hq.h (DQ.hle HF hq) hg hq.c (by omega)).mono ?_; rintro q_ w_yp ⟨yp, rfl, gg, kk⟩
     replace hq := hq.pick HF gg kk
     clear gg kk
     refine hK19b.out _ _ trivial (fun _ => ?_)
     have hHeld : (fun (_ : World) => True) w_yp := trivial
     refine wpAnyH_take (i := 6) (v := .agg #[.int .i64 yi, .int .i64 yp]) rfl (by kernel_rfl) (by kernel_rfl) (by kernel_rfl) (fun _ _ _ h => h) (Or.inl ⟨by rfl, by intro w hSw; go_simp⟩) hHeld ?_
     clear hHeld
     refine wpAnyH_ready (rs := [1, 7]) (by kernel_rfl) (by decide) ?_
     refine AllReadyH.cons rfl (fun K24a hK24a => ?_) (AllReadyH.cons rfl (fun K24b hK24b => ?_) AllReadyH.nil)
     ·have bq0 := hq.q.c0
      have bq1 := hq.q.c1
      have bqz := hq.q.frozen
      have bql := hq.q.lt
      go_simp
      clear bq0 bq1 bqz bql
      refine hK24a.out _ _ trivial (fun _ => ?_)
      refine wpAnyH_ready (rs := [7]) (by kernel_rfl) (by decide) ?_
      refine AllReadyH.cons rfl (fun K25 hK25 => ?_) AllReadyH.nil
      go_simp
      have bb := (Below.refl w_yp.heap.size w_yp).alloc (Nat.le_refl _) (.cells #[.int .i64 yi, .int .i64 yp] 107)
      have bN := Box.new w_yp #[.int .i64 yi, .int .i64 yp] 107 rfl
      have hzN := hq.q.lt
      replace hq := hq.below HF bb
      clear bb
      generalize w_yp.alloc _ = wa at *
      generalize w_yp.heap.size = gN at *
      refine hK25.out _ _ trivial (fun _ => ?_)
      refine wpAnyH_ready (rs := [8]) (by kernel_rfl) (by decide) ?_
      refine AllReadyH.cons rfl (fun K26 hK26 => ?_) AllReadyH.nil
      refine Wt.appK_ow rfl _ _ rfl rfl hq.ow gN 1 ⟨yi, yp⟩ rfl (fun j u hu => by rcases j with _ | _ | j <;> simp [Wt.cells] at hu <;> subst hu <;> first | exact bN.c0 | exact bN.c1) (by omega) hq.size (Nat.le_refl _) ?_
      intro v8 w8 row8 o8 g8 r8
      obtain ⟨A8, n8, c8, rfl, _, _, _⟩ := o8.rd.form
      have bq8 := hq.app_box g8 r8
      replace hq := hq.app HF g8 r8 o8
      refine hK26.out _ _ trivial (fun _ => ?_)
      have hHeld : (fun (_ : World) => True) w8 := trivial
      refine wpAnyH_take (i := 9) (v := .pointer (some ⟨gQ, 1, none⟩)) rfl (by kernel_rfl) (by kernel_rfl) (by kernel_rfl) (fun _ _ _ h => h) (Or.inl ⟨by rfl, by intro w hSw; go_simp⟩) hHeld ?_
      clear hHeld
      refine wpAnyH_ready (rs := [10]) (by kernel_rfl) (by decide) ?_
      refine AllReadyH.cons rfl (fun K27 hK27 => ?_) AllReadyH.nil
      have bq0 := bq8.c0
      have bq1 := bq8.c1
      have bqz := bq8.frozen
      have bql := bq8.lt
      go_simp
      clear bq0 bq1 bqz bql bq8
      generalize hwz : World.setCell _ _ _ = wz_
      obtain rfl : wz_ = setL w8 gQ 1 [.slice A8 n8 c8] := hwz.symm
      clear hwz
      generalize setL w8 _ 1 _ = wS at *
      refine hK27.out _ _ trivial (fun _ => ?_)
      refine ⟨by kernel_rfl, ?_⟩
      have bq0 := hq.q.c0
      have bq1 := hq.q.c1
      have bqz := hq.q.frozen
      have bql := hq.q.lt
      have br0 := hq.r.c0
      have br1 := hq.r.c1
      have brz := hq.r.frozen
      have brl := hq.r.lt
      go_wp2_with fail
      clear br0 br1 brz brl
      clear bq0 bq1 bqz bql
      generalize hwz : World.setCell (World.setCell _ _ _) _ _ = wz_
      obtain rfl : wz_ = setL wS (w.heap.size) 0 [.slice A0 4 c0, .slice A8 n8 c8] := hwz.symm
      clear hwz
      have o1 := hq.os.box hq.r (by decide) 0 [.slice A0 4 c0, .slice A8 n8 c8]
      have o2 := hq.ow.box hq.r (by decide) 0 [.slice A0 4 c0, .slice A8 n8 c8]
      have gS := setL_grown [.slice A0 4 c0, .slice A8 n8 c8] wS (w.heap.size) 0
      have hG := grown_new hq.G gS (fun q e => by injection e with e; omega)
      have hc := hq.c.other gS (by omega)
      have bR := hq.r.setAll [.slice A0 4 c0, .slice A8 n8 c8] rfl
      have zS : (setL wS (w.heap.size) 0 [.slice A0 4 c0, .slice A8 n8 c8]).heap.size = wS.heap.size := setL_size _ _ _ _
      generalize setL wS _ 0 _ = wE at *
      have u0_ := bR.c0
      have u1_ := bR.c1
      refine bodyPost_ret (by simp only [results, Tryz.results89]; simp [go_sem, u0_, u1_]; rfl) rfl ?_
      have F5 := (show ls.length ≤ 5 by have := HFt.out.2.1; omega)
      have F9 := (show (lw ++ [(⟨yi, yp⟩ : Wt)]).length ≤ 9 by have := HFt.out.2.2; simp; omega)
      have O1 := o1.mono (Nat.le_refl _) (Nat.le_of_eq zS.symm)
      have O2 := o2.mono (Nat.le_refl _) (Nat.le_of_eq zS.symm)
      first | exact ⟨_, _, _, _, rfl, HFt.out.1, F5, F9, O1, O2, hG, hc.mono (by omega)⟩ | exact ⟨_, _, rfl, _, HFt.out.1, F5, _, F9, O1, O2, hG, hc.mono (by omega)⟩
     ·go_simp
      have bb := (Below.refl w_yp.heap.size w_yp).alloc (Nat.le_refl _) (.cells #[.int .i64 yi, .int .i64 yp] 107)
      have bN := Box.new w_yp #[.int .i64 yi, .int .i64 yp] 107 rfl
      have hzN := hq.q.lt
      replace hq := hq.below HF bb
      clear bb
      generalize w_yp.alloc _ = wa at *
      generalize w_yp.heap.size = gN at *
      refine hK24b.out _ _ trivial (fun _ => ?_)
      refine wpAnyH_ready (rs := [1]) (by kernel_rfl) (by decide) ?_
      refine AllReadyH.cons rfl (fun K28 hK28 => ?_) AllReadyH.nil
      have bq0 := hq.q.c0
      have bq1 := hq.q.c1
      have bqz := hq.q.frozen
      have bql := hq.q.lt
      go_simp
      clear bq0 bq1 bqz bql
      refine hK28.out _ _ trivial (fun _ => ?_)
      refine wpAnyH_ready (rs := [8]) (by kernel_rfl) (by decide) ?_
      refine AllReadyH.cons rfl (fun K29 hK29 => ?_) AllReadyH.nil
      refine Wt.appK_ow rfl _ _ rfl rfl hq.ow gN 1 ⟨yi, yp⟩ rfl (fun j u hu => by rcases j with _ | _ | j <;> simp [Wt.cells] at hu <;> subst hu <;> first | exact bN.c0 | exact bN.c1) (by omega) hq.size (Nat.le_refl _) ?_
      intro v8 w8 row8 o8 g8 r8
      obtain ⟨A8, n8, c8, rfl, _, _, _⟩ := o8.rd.form
      have bq8 := hq.app_box g8 r8
      replace hq := hq.app HF g8 r8 o8
      refine hK29.out _ _ trivial (fun _ => ?_)
      have hHeld : (fun (_ : World) => True) w8 := trivial
      refine wpAnyH_take (i := 9) (v := .pointer (some ⟨gQ, 1, none⟩)) rfl (by kernel_rfl) (by kernel_rfl) (by kernel_rfl) (fun _ _ _ h => h) (Or.inl ⟨by rfl, by intro w hSw; go_simp⟩) hHeld ?_
      clear hHeld
      refine wpAnyH_ready (rs := [10]) (by kernel_rfl) (by decide) ?_
      refine AllReadyH.cons rfl (fun K30 hK30 => ?_) AllReadyH.nil
      have bq0 := bq8.c0
      have bq1 := bq8.c1
      have bqz := bq8.frozen
      have bql := bq8.lt
      go_simp
      clear bq0 bq1 bqz bql bq8
      generalize hwz : World.setCell _ _ _ = wz_
      obtain rfl : wz_ = setL w8 gQ 1 [.slice A8 n8 c8] := hwz.symm
      clear hwz
      generalize setL w8 _ 1 _ = wS at *
      refine hK30.out _ _ trivial (fun _ => ?_)
      refine ⟨by kernel_rfl, ?_⟩
      have bq0 := hq.q.c0
      have bq1 := hq.q.c1
      have bqz := hq.q.frozen
      have bql := hq.q.lt
      have br0 := hq.r.c0
      have br1 := hq.r.c1
      have brz := hq.r.frozen
      have brl := hq.r.lt
      go_wp2_with fail
      clear br0 br1 brz brl
      clear bq0 bq1 bqz bql
      generalize hwz : World.setCell (World.setCell _ _ _) _ _ = wz_
      obtain rfl : wz_ = setL wS (w.heap.size) 0 [.slice A0 4 c0, .slice A8 n8 c8] := hwz.symm
      clear hwz
      have o1 := hq.os.box hq.r (by decide) 0 [.slice A0 4 c0, .slice A8 n8 c8]
      have o2 := hq.ow.box hq.r (by decide) 0 [.slice A0 4 c0, .slice A8 n8 c8]
      have gS := setL_grown [.slice A0 4 c0, .slice A8 n8 c8] wS (w.heap.size) 0
      have hG := grown_new hq.G gS (fun q e => by injection e with e; omega)
      have hc := hq.c.other gS (by omega)
      have bR := hq.r.setAll [.slice A0 4 c0, .slice A8 n8 c8] rfl
      have zS : (setL wS (w.heap.size) 0 [.slice A0 4 c0, .slice A8 n8 c8]).heap.size = wS.heap.size := setL_size _ _ _ _
      generalize setL wS _ 0 _ = wE at *
      have u0_ := bR.c0
      have u1_ := bR.c1
      refine bodyPost_ret (by simp only [results, Tryz.results89]; simp [go_sem, u0_, u1_]; rfl) rfl ?_
      have F5 := (show ls.length ≤ 5 by have := HFt.out.2.1; omega)
      have F9 := (show (lw ++ [(⟨yi, yp⟩ : Wt)]).length ≤ 9 by have := HFt.out.2.2; simp; omega)
      have O1 := o1.mono (Nat.le_refl _) (Nat.le_of_eq zS.symm)
      have O2 := o2.mono (Nat.le_refl _) (Nat.le_of_eq zS.symm)
      first | exact ⟨_, _, _, _, rfl, HFt.out.1, F5, F9, O1, O2, hG, hc.mono (by omega)⟩ | exact ⟨_, _, rfl, _, HFt.out.1, F5, _, F9, O1, O2, hG, hc.mono (by omega)⟩
  ·subst h2
   have bq0 := hq.q.c0
   have bq1 := hq.q.c1
   have bqz := hq.q.frozen
   have bql := hq.q.lt
   rcases Nat.eq_zero_or_pos n1 with hn1 | hn1
   ·subst hn1
    have br0 := hq.r.c0
    have br1 := hq.r.c1
    have brz := hq.r.frozen
    have brl := hq.r.lt
    go_wp2_with fail
    clear br0 br1 brz brl
    generalize hwz : World.setCell (World.setCell _ _ _) _ _ = wz_
    obtain rfl : wz_ = setL wp_z1 (w.heap.size) 0 [.slice A0 4 c0, .slice A1 0 c1] := hwz.symm
    clear hwz
    have o1 := hq.os.box hq.r (by decide) 0 [.slice A0 4 c0, .slice A1 0 c1]
    have o2 := hq.ow.box hq.r (by decide) 0 [.slice A0 4 c0, .slice A1 0 c1]
    have gS := setL_grown [.slice A0 4 c0, .slice A1 0 c1] wp_z1 (w.heap.size) 0
    have hG := grown_new hq.G gS (fun q e => by injection e with e; omega)
    have hc := hq.c.other gS (by omega)
    have bR := hq.r.setAll [.slice A0 4 c0, .slice A1 0 c1] rfl
    have zS : (setL wp_z1 (w.heap.size) 0 [.slice A0 4 c0, .slice A1 0 c1]).heap.size = wp_z1.heap.size := setL_size _ _ _ _
    generalize setL wp_z1 _ 0 _ = wE at *
    have u0_ := bR.c0
    have u1_ := bR.c1
    refine bodyPost_ret (by simp only [results, Tryz.results89]; simp [go_sem, u0_, u1_]; rfl) rfl ?_
    have F5 := (show ls.length ≤ 5 by have := HFt.out.2.1; omega)
    have F9 := (show lw.length ≤ 9 by have := HFt.out.2.2; omega)
    have O1 := o1.mono (Nat.le_refl _) (Nat.le_of_eq zS.symm)
    have O2 := o2.mono (Nat.le_refl _) (Nat.le_of_eq zS.symm)
    first | exact ⟨_, _, _, _, rfl, HFt.out.1, F5, F9, O1, O2, hG, hc.mono (by omega)⟩ | exact ⟨_, _, rfl, _, HFt.out.1, F5, _, F9, O1, O2, hG, hc.mono (by omega)⟩
   ·have hnd : decide ((0 : Int) < (n1 : Int)) = true := decide_eq_true (by omega)
    go_upto_region 23 with fail
    clear bq0 bq1 bqz bql
    obtain ⟨b, off, t0, rfl, _, hbl, _, _⟩ := Sl.get hq.os.rd (show 0 < 4 by omega) (Below.refl wp_z1.heap.size wp_z1) (Nat.le_refl _)
    replace hq := hq.below HF (Below.refl _ _).drew
    have bq0 := hq.q.c0
    have bq1 := hq.q.c1
    have bqz := hq.q.frozen
    have bql := hq.q.lt
    go_region_with (go_at_call 61; refine (pick_any g _ _ l 4 _ hq.h (DQ.hle HF hq) hg hq.c (by omega) (by omega)).mono ?_; rintro q_ wq ⟨yj, rfl, yj_0, yj_1, gg, kk⟩; (replace hq := hq.pick HF gg kk); (obtain ⟨j4, rfl⟩ : ∃ j : Nat, yj = j := ⟨yj.toNat, by omega⟩); (have hj4 : j4 < 4 := by omega); (have hji : (j4 : Int) < 4 := by omega); (clear yj_0 yj_1); (have bq0 := hq.q.c0); (have bq1 := hq.q.c1); (have bqz := hq.q.frozen); (have bql := hq.q.lt); (obtain ⟨b', off', t, hAA, HT, _, hb2, f0, f1, f2⟩ := Sl.get hq.os.rd hj4 (Below.refl wq.heap.size wq) (Nat.le_refl _)); (injection hAA with hAA); (injection hAA with e1 e2); (subst e1); (subst e2); (have hfz := hq.os.frozen (by omega)))
    all_goals
     go_upto_region 24 with fail
     generalize hwz : World.setCell (World.setCell (World.setCell _ _ _) _ _) _ _ = wz_
     obtain rfl : wz_ = setL wq b (off + j4 * 3) (Sl.cells ⟨0, 0, 0⟩) := hwz.symm
     clear hwz f0 f1 f2 hfz
     replace hq := hq.slot HF (t' := ⟨0, 0, 0⟩) HT.out hj4 (by omega)
     generalize setL wq b _ _ = wS at *
     have bq0 := hq.q.c0
     have bq1 := hq.q.c1
     have bqz := hq.q.frozen
     have bql := hq.q.lt
     have br0 := hq.r.c0
     have br1 := hq.r.c1
     have brz := hq.r.frozen
     have brl := hq.r.lt
     go_wp2_with fail
     clear br0 br1 brz brl
     clear bq0 bq1 bqz bql
     generalize hwz : World.setCell (World.setCell _ _ _) _ _ = wz_
     obtain rfl : wz_ = setL wS (w.heap.size) 0 [.slice (some ⟨b, off, none⟩) 4 c0, .slice A1 n1 c1] := hwz.symm
     clear hwz
     have o1 := hq.os.box hq.r (by decide) 0 [.slice (some ⟨b, off, none⟩) 4 c0, .slice A1 n1 c1]
     have o2 := hq.ow.box hq.r (by decide) 0 [.slice (some ⟨b, off, none⟩) 4 c0, .slice A1 n1 c1]
     have gS := setL_grown [.slice (some ⟨b, off, none⟩) 4 c0, .slice A1 n1 c1] wS (w.heap.size) 0
     have hG := grown_new hq.G gS (fun q e => by injection e with e; omega)
     have hc := hq.c.other gS (by omega)
     have bR := hq.r.setAll [.slice (some ⟨b, off, none⟩) 4 c0, .slice A1 n1 c1] rfl
     have zS : (setL wS (w.heap.size) 0 [.slice (some ⟨b, off, none⟩) 4 c0, .slice A1 n1 c1]).heap.size = wS.heap.size := setL_size _ _ _ _
     generalize setL wS _ 0 _ = wE at *
     have u0_ := bR.c0
     have u1_ := bR.c1
     refine bodyPost_ret (by simp only [results, Tryz.results89]; simp [go_sem, u0_, u1_]; rfl) rfl ?_
     have F5 := (show (ls.set j4 ⟨0, 0, 0⟩).length ≤ 5 by rw [List.length_set]; have := HFt.out.2.1; omega)
     have F9 := (show lw.length ≤ 9 by have := HFt.out.2.2; omega)
     have O1 := o1.mono (Nat.le_refl _) (Nat.le_of_eq zS.symm)
     have O2 := o2.mono (Nat.le_refl _) (Nat.le_of_eq zS.symm)
     first | exact ⟨_, _, _, _, rfl, Sl.dis_set HFt.out.1 rfl j4, F5, F9, O1, O2, hG, hc.mono (by omega)⟩ | exact ⟨_, _, rfl, _, Sl.dis_set HFt.out.1 rfl j4, F5, _, F9, O1, O2, hG, hc.mono (by omega)⟩

end Go.Proofs.YtndfmkbpdoohfaaGreat

/- Processor interfaces in plain terms: when one is valid, and that what is done to it keeps it so. No condition. -/
namespace Go.Proofs.YtndfmkbpdoohfaaGreat

theorem sortI_perm (l : List Int) : (l.mergeSort fun x y => decide (x ≤ y)).Perm l := List.mergeSort_perm l _
theorem sortI_asc (l : List Int) : (l.mergeSort fun x y => decide (x ≤ y)).Pairwise (fun a b => a ≤ b) := by
 have := List.pairwise_mergeSort (le := fun x y : Int => decide (x ≤ y)) (fun a b c h1 h2 => by simp at *; omega) (fun a b => by simp; omega) l
 exact this.imp (fun h => by simpa using h)
theorem asc_sub : ∀ (b a : List Int), a.Pairwise (· < ·) → b.Pairwise (· < ·) → (∀ x ∈ a, x ∈ b) → a.Sublist b
 | [], a, _, _, h => by
  cases a with
  | nil => exact List.Sublist.refl _
  | cons x a => exact absurd (h x (by simp)) (by simp)
 | y :: b, [], _, _, _ => List.nil_sublist _
 | y :: b, x :: a, ha, hb, h => by
  rw [List.pairwise_cons] at ha hb
  by_cases e : x = y
  ·subst e
   refine List.Sublist.cons_cons x (asc_sub b a ha.2 hb.2 fun z hz => ?_)
   rcases List.mem_cons.1 (h z (by simp [hz])) with rfl | hz'
   ·exact absurd (ha.1 z hz) (by omega)
   ·exact hz'
  ·have hx : x ∈ b := by
    rcases List.mem_cons.1 (h x (by simp)) with h' | h'
    ·exact absurd h' e
    ·exact h'
   have hyx := hb.1 x hx
   refine List.Sublist.cons y (asc_sub b (x :: a) (List.pairwise_cons.2 ha) hb.2 fun z hz => ?_)
   rcases List.mem_cons.1 (h z hz) with rfl | hz'
   ·rcases List.mem_cons.1 hz with rfl | hz2
    ·exact absurd rfl e
    ·exact absurd (ha.1 z hz2) (by omega)
   ·exact hz'
theorem asc_nodup {l : List Int} (h : l.Pairwise (· < ·)) : l.Nodup := h.imp (fun h e => by omega)
theorem nodup_asc {l : List Int} (h : l.Pairwise (· ≤ ·)) (hn : l.Nodup) : l.Pairwise (· < ·) := by
 have := h.and hn
 exact this.imp (fun ⟨h1, h2⟩ => by
  have : ¬ _ = _ := h2
  omega)

theorem set_self {α : Type} {l : List α} {k : Nat} {s : α} (h : l[k]? = some s) : l.set k s = l := by
 apply List.ext_getElem?
 intro j
 rw [List.getElem?_set]
 split
 ·rename_i e
  subst e
  rw [if_pos (List.getElem?_eq_some_iff.1 h).1, h]
 ·rfl

/-! ### validity -/
def Sl.lvl (ls : List Sl) (i : Int) : Int := (Sl.at_ ls (Sl.ix ls i)).prio
def Fa.descAt (ls : List Sl) (st : List Int) : Nat → Bool
 | 0 => true
 | j + 1 => decide (Sl.lvl ls (st.getD (j + 1) 0) < Sl.lvl ls (st.getD j 0))
def Fa.descTo (ls : List Sl) (st : List Int) : Nat → Bool
 | 0 => true
 | k + 1 => Fa.descTo ls st k && Fa.descAt ls st k
def Fa.same (st : List Int) (ls : List Sl) : Bool := (st.mergeSort fun x y => decide (x ≤ y)) == Sl.active ls
def Fa.good (m : Int) (st : List Int) (ls : List Sl) (lw : List Wt) : Bool := (inB m 0 16 && Qu.good ls lw) && (Fa.same st ls && Fa.descTo ls st st.length)
def Fa.okAt (ls : List Sl) (st : List Int) (i : Nat) (x : Int) : Bool := ((Sl.active ls).contains x && !(st.take i).contains x) && Fa.descAt ls st i
def Fa.okTo (ls : List Sl) (st : List Int) : Nat → Bool
 | 0 => true
 | k + 1 => Fa.okTo ls st k && (match st[k]? with | some x => Fa.okAt ls st k x | none => true)
theorem Fa.okTo_succ {ls : List Sl} {st : List Int} {k : Nat} {x : Int} (h : st[k]? = some x) : Fa.okTo ls st (k + 1) = (Fa.okTo ls st k && Fa.okAt ls st k x) := by simp [Fa.okTo, h]
theorem Fa.okTo_iff {ls : List Sl} {st : List Int} : ∀ {k : Nat}, Fa.okTo ls st k = true ↔ ∀ (j : Nat) (x : Int), j < k → st[j]? = some x → Fa.okAt ls st j x = true
 | 0 => by simp [Fa.okTo]
 | k + 1 => by
  have ih := Fa.okTo_iff (ls := ls) (st := st) (k := k)
  rw [Fa.okTo, Bool.and_eq_true, ih]
  constructor
  ·rintro ⟨h1, h2⟩ j s hj hs
   by_cases hjk : j = k
   ·subst hjk; rw [hs] at h2; exact h2
   ·exact h1 j s (by omega) hs
  ·intro h
   refine ⟨fun j s hj hs => h j s (by omega) hs, ?_⟩
   cases hk : st[k]? with
   | none => rfl
   | some s => exact h k s (by omega) hk
theorem Fa.descTo_iff {ls : List Sl} {st : List Int} : ∀ {k : Nat}, Fa.descTo ls st k = true ↔ ∀ j, j < k → Fa.descAt ls st j = true
 | 0 => by simp [Fa.descTo]
 | k + 1 => by
  have ih := Fa.descTo_iff (ls := ls) (st := st) (k := k)
  rw [Fa.descTo, Bool.and_eq_true, ih]
  constructor
  ·rintro ⟨h1, h2⟩ j hj
   by_cases hjk : j = k
   ·subst hjk; exact h2
   ·exact h1 j (by omega)
  ·exact fun h => ⟨fun j hj => h j (by omega), h k (by omega)⟩
theorem Sl.active_asc (ls : List Sl) : (Sl.active ls).Pairwise (· < ·) := accL_asc _ _ ls
theorem Sl.active_mem {ls : List Sl} {i : Int} : i ∈ Sl.active ls ↔ ∃ s ∈ ls, Sl.isAct s = true ∧ s.irq = i := accL_mem _ _ ls i
theorem Sl.active_len (ls : List Sl) : (Sl.active ls).length ≤ ls.length := accL_len _ _ ls
theorem Fa.same_iff {st : List Int} {ls : List Sl} : Fa.same st ls = true ↔ st.Nodup ∧ ∀ i, i ∈ st ↔ i ∈ Sl.active ls := by
 rw [Fa.same, beq_iff_eq]
 have hp := sortI_perm st
 constructor
 ·intro h
  rw [h] at hp
  exact ⟨hp.nodup_iff.1 (asc_nodup (Sl.active_asc ls)), fun i => hp.mem_iff.symm⟩
 ·rintro ⟨hn, hm⟩
  have h1 := nodup_asc (sortI_asc st) (hp.nodup_iff.2 hn)
  have h2 := asc_sub _ _ h1 (Sl.active_asc ls) (fun x hx => (hm x).1 (hp.mem_iff.1 hx))
  have h3 := asc_sub _ _ (Sl.active_asc ls) h1 (fun x hx => hp.mem_iff.2 ((hm x).2 hx))
  exact h2.eq_of_length (Nat.le_antisymm h2.length_le h3.length_le)
/-- the reference's own test -/
theorem Fa.ok_eq (st : List Int) (ls : List Sl) : (Fa.okTo ls st st.length && decide (st.length = (Sl.active ls).length)) = (Fa.same st ls && Fa.descTo ls st st.length) := by
 rw [Bool.eq_iff_iff]
 simp only [Bool.and_eq_true, decide_eq_true_eq, Fa.okTo_iff, Fa.same_iff, Fa.descTo_iff]
 constructor
 ·rintro ⟨h1, h2⟩
  have hx : ∀ (j : Nat) (x : Int), st[j]? = some x → x ∈ Sl.active ls ∧ x ∉ st.take j ∧ Fa.descAt ls st j = true := fun j x hj => by
   have := h1 j x (List.getElem?_eq_some_iff.1 hj).1 hj
   simp only [Fa.okAt, Bool.and_eq_true, Bool.not_eq_true', List.contains_eq_mem, decide_eq_true_eq, decide_eq_false_iff_not] at this
   exact ⟨this.1.1, this.1.2, this.2⟩
  have hn : st.Nodup := by
   unfold List.Nodup
   rw [List.pairwise_iff_getElem]
   intro i j hi hj hij e
   refine (hx j _ (List.getElem?_eq_getElem hj)).2.1 ?_
   rw [← e, List.mem_take_iff_getElem]
   exact ⟨i, by omega, rfl⟩
  have hs : ∀ x ∈ st, x ∈ Sl.active ls := fun x hxm => by
   obtain ⟨j, hj⟩ := List.getElem?_of_mem hxm
   exact (hx j x hj).1
  have hp := sortI_perm st
  have hl := (asc_sub _ _ (nodup_asc (sortI_asc st) (hp.nodup_iff.2 hn)) (Sl.active_asc ls) (fun x hx => hs x (hp.mem_iff.1 hx))).eq_of_length (by rw [hp.length_eq]; exact h2)
  refine ⟨⟨hn, fun i => ?_⟩, fun j hj => (hx j _ (List.getElem?_eq_getElem hj)).2.2⟩
  rw [← hl]; exact hp.mem_iff.symm
 ·rintro ⟨⟨hn, hm⟩, hd⟩
  refine ⟨fun j x hj hx => ?_, ?_⟩
  ·simp only [Fa.okAt, Bool.and_eq_true, Bool.not_eq_true', List.contains_eq_mem, decide_eq_true_eq, decide_eq_false_iff_not]
   refine ⟨⟨(hm x).1 (List.mem_of_getElem? hx), fun hc => ?_⟩, hd j hj⟩
   rw [List.mem_take_iff_getElem] at hc
   obtain ⟨i, hi, e⟩ := hc
   obtain ⟨_, e2⟩ := List.getElem?_eq_some_iff.1 hx
   exact (List.pairwise_iff_getElem.1 hn) i j (by omega) hj (by omega) (by rw [e, e2])
  ·have hp := sortI_perm st
   have h1 := nodup_asc (sortI_asc st) (hp.nodup_iff.2 hn)
   have h2 := asc_sub _ _ h1 (Sl.active_asc ls) (fun x hx => (hm x).1 (hp.mem_iff.1 hx))
   have h3 := asc_sub _ _ (Sl.active_asc ls) h1 (fun x hx => hp.mem_iff.2 ((hm x).2 hx))
   rw [← hp.length_eq]
   exact Nat.le_antisymm h2.length_le h3.length_le

/-! ### in words -/
/-- i is active, at priority p -/
def Sl.Act (ls : List Sl) (i p : Int) : Prop := ∃ s ∈ ls, Sl.isAct s = true ∧ s.irq = i ∧ s.prio = p
theorem Sl.isAct_used {s : Sl} (h : Sl.isAct s = true) : ¬ s.state = 0 := by intro e; simp [Sl.isAct, e] at h
theorem Sl.lvl_of {ls : List Sl} (hg : Sl.good ls = true) {k : Nat} {s : Sl} (hs : ls[k]? = some s) (h0 : ¬ s.state = 0) : Sl.ix ls s.irq = k ∧ Sl.lvl ls s.irq = s.prio := by
 have h := Sl.ix_of hg hs h0
 exact ⟨h, by rw [Sl.lvl, h, Sl.at_get hs]⟩
theorem Sl.act_lvl {ls : List Sl} (hg : Sl.good ls = true) {i p : Int} (h : Sl.Act ls i p) : Sl.lvl ls i = p := by
 obtain ⟨s, hs, ha, rfl, rfl⟩ := h
 obtain ⟨k, hk⟩ := List.getElem?_of_mem hs
 exact (Sl.lvl_of hg hk (Sl.isAct_used ha)).2
theorem Sl.act_active {ls : List Sl} {i : Int} : i ∈ Sl.active ls ↔ ∃ p, Sl.Act ls i p := by
 rw [Sl.active_mem]
 constructor
 ·rintro ⟨s, hs, ha, hi⟩; exact ⟨s.prio, s, hs, ha, hi, rfl⟩
 ·rintro ⟨p, s, hs, ha, hi, _⟩; exact ⟨s, hs, ha, hi⟩
/-- a valid stack beside slots -/
def Fa.Ok (st : List Int) (ls : List Sl) : Prop := st.Nodup ∧ (∀ i, i ∈ st ↔ ∃ p, Sl.Act ls i p) ∧ st.Pairwise (fun a b => Sl.lvl ls b < Sl.lvl ls a)
theorem Fa.desc_iff {ls : List Sl} {st : List Int} : Fa.descTo ls st st.length = true ↔ st.Pairwise (fun a b => Sl.lvl ls b < Sl.lvl ls a) := by
 rw [Fa.descTo_iff]
 constructor
 ·intro h
  have key : ∀ (d i : Nat) (a b : Int), st[i]? = some a → st[i + d + 1]? = some b → Sl.lvl ls b < Sl.lvl ls a := by
   intro d
   induction d with
   | zero =>
    intro i a b ha hb
    have := h (i + 1) (List.getElem?_eq_some_iff.1 hb).1
    simp only [Nat.add_zero] at hb
    simp only [Fa.descAt, decide_eq_true_eq, List.getD_eq_getElem?_getD, ha, hb, Option.getD_some] at this
    exact this
   | succ d ih =>
    intro i a b ha hb
    have hlt := (List.getElem?_eq_some_iff.1 hb).1
    have hm : st[i + d + 1]? = some st[i + d + 1] := List.getElem?_eq_getElem (by omega)
    have h2 := h (i + d + 1 + 1) (by omega)
    rw [show i + (d + 1) + 1 = i + d + 1 + 1 by omega] at hb
    simp only [Fa.descAt, decide_eq_true_eq, List.getD_eq_getElem?_getD, hm, hb, Option.getD_some] at h2
    have := ih i a _ ha hm
    omega
  rw [List.pairwise_iff_getElem]
  intro i j hi hj hij
  exact key (j - i - 1) i _ _ (List.getElem?_eq_getElem hi) (by rw [show i + (j - i - 1) + 1 = j by omega]; exact List.getElem?_eq_getElem hj)
 ·intro h j hj
  cases j with
  | zero => rfl
  | succ j =>
   have := (List.pairwise_iff_getElem.1 h) j (j + 1) (by omega) hj (by omega)
   simp only [Fa.descAt, decide_eq_true_eq, List.getD_eq_getElem?_getD, List.getElem?_eq_getElem (show j < st.length by omega), List.getElem?_eq_getElem hj, Option.getD_some]
   exact this
theorem Fa.good_iff {m : Int} {st : List Int} {ls : List Sl} {lw : List Wt} : Fa.good m st ls lw = true ↔ inB m 0 16 = true ∧ Qu.good ls lw = true ∧ Fa.Ok st ls := by
 simp only [Fa.good, Bool.and_eq_true, Fa.same_iff, Fa.desc_iff, Fa.Ok, Sl.act_active, and_assoc]
theorem Fa.ok_len {st : List Int} {ls : List Sl} (h : Fa.Ok st ls) : st.length ≤ ls.length := by
 have hp := sortI_perm st
 have h1 := nodup_asc (sortI_asc st) (hp.nodup_iff.2 h.1)
 have h2 := asc_sub _ _ h1 (Sl.active_asc ls) (fun x hx => Sl.act_active.2 ((h.2.1 x).1 (hp.mem_iff.1 hx)))
 have := h2.length_le
 rw [hp.length_eq] at this
 have := Sl.active_len ls
 omega
/-- an element of a valid stack lies in a slot -/
theorem Fa.ok_slot {st : List Int} {ls : List Sl} (hg : Sl.good ls = true) (h : Fa.Ok st ls) {i : Int} (hi : i ∈ st) : ∃ (k : Nat) (s : Sl), ls[k]? = some s ∧ Sl.isAct s = true ∧ s.irq = i ∧ Sl.ix ls i = k ∧ Sl.lvl ls i = s.prio := by
 obtain ⟨p, s, hs, ha, rfl, _⟩ := (h.2.1 i).1 hi
 obtain ⟨k, hk⟩ := List.getElem?_of_mem hs
 have := Sl.lvl_of hg hk (Sl.isAct_used ha)
 exact ⟨k, s, hk, ha, rfl, this.1, this.2⟩
/-- slots with the same active interrupts bear the same stacks -/
theorem Fa.ok_act {st : List Int} {ls ls' : List Sl} (hg : Sl.good ls = true) (hg' : Sl.good ls' = true) (h : Fa.Ok st ls) (ha : ∀ i p, Sl.Act ls' i p ↔ Sl.Act ls i p) : Fa.Ok st ls' := by
 have hl : ∀ i ∈ st, Sl.lvl ls' i = Sl.lvl ls i := fun i hi => by
  obtain ⟨p, hp⟩ := (h.2.1 i).1 hi
  rw [Sl.act_lvl hg hp, Sl.act_lvl hg' ((ha i p).2 hp)]
 refine ⟨h.1, fun i => ?_, ?_⟩
 ·rw [h.2.1 i]
  exact ⟨fun ⟨p, hp⟩ => ⟨p, (ha i p).2 hp⟩, fun ⟨p, hp⟩ => ⟨p, (ha i p).1 hp⟩⟩
 ·rw [List.pairwise_iff_getElem] at *
  intro i j hi hj hij
  rw [hl _ (List.getElem_mem hi), hl _ (List.getElem_mem hj)]
  exact (List.pairwise_iff_getElem.1 h.2.2) i j hi hj hij
theorem Sl.act_set {ls : List Sl} {k : Nat} {s x : Sl} (hs : ls[k]? = some s) (i p : Int) : Sl.Act (ls.set k x) i p ↔ (Sl.isAct x = true ∧ x.irq = i ∧ x.prio = p) ∨ ∃ j u, j ≠ k ∧ ls[j]? = some u ∧ Sl.isAct u = true ∧ u.irq = i ∧ u.prio = p := by
 constructor
 ·rintro ⟨u, hu, h⟩
  rcases mem_set_or hu with rfl | ⟨j, hj, hu⟩
  ·exact .inl h
  ·exact .inr ⟨j, u, hj, hu, h⟩
 ·rintro (h | ⟨j, u, hj, hu, h⟩)
  ·exact ⟨x, List.mem_of_getElem? (i := k) (by rw [List.getElem?_set, if_pos rfl, if_pos (List.getElem?_eq_some_iff.1 hs).1]), h⟩
  ·exact ⟨u, List.mem_of_getElem? (i := j) (by rw [List.getElem?_set, if_neg (by omega)]; exact hu), h⟩
theorem Sl.act_at {ls : List Sl} {k : Nat} {s : Sl} (hs : ls[k]? = some s) (i p : Int) : Sl.Act ls i p ↔ (Sl.isAct s = true ∧ s.irq = i ∧ s.prio = p) ∨ ∃ j u, j ≠ k ∧ ls[j]? = some u ∧ Sl.isAct u = true ∧ u.irq = i ∧ u.prio = p := by
 have := Sl.act_set (x := s) hs i p
 rwa [set_self hs] at this
/-- setting a slot leaves the active ones if what stood there and what stands there are alike in that -/
theorem Sl.act_same {ls : List Sl} {k : Nat} {s x : Sl} (hs : ls[k]? = some s) (h : (Sl.isAct x = true ↔ Sl.isAct s = true) ∧ (Sl.isAct s = true → x.irq = s.irq ∧ x.prio = s.prio)) (i p : Int) : Sl.Act (ls.set k x) i p ↔ Sl.Act ls i p := by
 rw [Sl.act_set hs, Sl.act_at hs]
 refine or_congr ?_ Iff.rfl
 constructor
 ·rintro ⟨h1, h2, h3⟩
  have h4 := h.1.1 h1
  have := h.2 h4
  exact ⟨h4, by rw [← this.1]; exact h2, by rw [← this.2]; exact h3⟩
 ·rintro ⟨h1, h2, h3⟩
  have := h.2 h1
  exact ⟨h.1.2 h1, by rw [this.1]; exact h2, by rw [this.2]; exact h3⟩
theorem Qu.step_act {ls : List Sl} {lw : List Wt} (hs : Qu.settled ls lw = false) (i p : Int) : Sl.Act (Qu.step ls lw).1 i p ↔ Sl.Act ls i p := by
 obtain ⟨t, rest, rfl, hc⟩ := Qu.unsettled hs
 rcases hc with ⟨k, s, hk, _, hsk, h0⟩ | ⟨hf, k, s, hk, _, hsk, h1, _⟩
 ·rw [Qu.step_free hk]
  exact Sl.act_same hsk ⟨by simp [Sl.isAct, Sl.pend, h0], fun h => by simp [Sl.isAct, h0] at h⟩ i p
 ·rw [Qu.step_full hf hk hsk]
  exact Sl.act_same hsk ⟨by simp [Sl.isAct, Sl.pend, h1], fun h => by simp [Sl.isAct, h1] at h⟩ i p
theorem Qu.run_act : ∀ (n : Nat) (ls : List Sl) (lw : List Wt) (i p : Int), Sl.Act (Qu.run n ls lw).1 i p ↔ Sl.Act ls i p
 | 0, _, _, _, _ => Iff.rfl
 | n + 1, ls, lw, i, p => by
  cases hs : Qu.settled ls lw
  ·rw [Qu.run, hs]
   simp only [Bool.false_eq_true, if_false]
   exact (Qu.run_act n _ _ i p).trans (Qu.step_act hs i p)
  ·simp [Qu.run, hs]
theorem Qu.st_act (ls : List Sl) (lw : List Wt) (i p : Int) : Sl.Act (Qu.st ls lw).1 i p ↔ Sl.Act ls i p := Qu.run_act 1000 ls lw i p

/-! ### raising -/
theorem Qu.of_act {ls : List Sl} {lw : List Wt} {i p : Int} (hp : Qu.parts ls lw = true) (j q : Int) : Sl.Act (Qu.ofP ls lw i p).1 j q ↔ Sl.Act ls j q := by
 rw [Qu.ofP, Qu.st_act]
 have hg := (Qu.parts_get hp).1
 by_cases h1 : 0 ≤ Sl.ix ls i
 ·rw [Qu.of_hit h1]
  obtain ⟨k, s, hk, _, hs, h0, _⟩ := Sl.ix_hit h1
  show Sl.Act (Sl.putR ls i p) j q ↔ _
  rw [(Sl.put_hit (p := p) hk hs).2]
  refine Sl.act_same hs ?_ j q
  unfold Sl.both
  split
  ·rename_i h2; simp [Sl.isAct, h2]
  ·simp
 ·have h1' : Sl.ix ls i < 0 := by omega
  cases h2 : lw.any (Wt.isI i)
  ·rw [Qu.of_new h1' h2]
  ·rw [Qu.of_had h1' h2]
theorem Fa.raise_ok {st : List Int} {ls : List Sl} {lw : List Wt} {i p : Int} (hq : Qu.good ls lw = true) (hi : inB i 0 7 = true) (hpr : inB p 0 15 = true) (h : Fa.Ok st ls) : Fa.Ok st (Qu.ofP ls lw i p).1 := by
 have hp := (Qu.good_parts hq).1
 have hg2 := (Qu.parts_get (Qu.good_parts (Qu.ofP_good (ls := ls) (lw := lw) (i := i) (p := p) (by simp [Qu.ofOk, hq, hi, hpr]))).1).1
 exact Fa.ok_act (Qu.parts_get hp).1 hg2 h (fun j q => Qu.of_act hp j q)

/-! ### the running priority, taking -/
def Fa.run (st : List Int) (ls : List Sl) : Int := match st.getLast? with
 | some i => Sl.lvl ls i
 | none => 16
theorem Fa.run_last {st : List Int} {ls : List Sl} {i : Int} (h : st.getLast? = some i) : Fa.run st ls = Sl.lvl ls i := by simp [Fa.run, h]
def minI (a b : Int) : Int := if a < b then a else b
theorem Qu.tk_act {ls : List Sl} {m : Int} (hk : Sl.tkOk ls m = true) (j q : Int) : Sl.Act (Sl.tkS ls) j q ↔ (j = Sl.tkI ls ∧ q = (Sl.at_ ls (Sl.bx ls)).prio) ∨ Sl.Act ls j q := by
 obtain ⟨k, s, hb, _, hs, h1, _, e, e2⟩ := Sl.tkOk_hit hk
 rw [e, Sl.act_set hs, Sl.act_at hs, e2, hb, Sl.at_get hs]
 have hn : ¬ Sl.isAct s = true := by simp [Sl.isAct, h1]
 constructor
 ·rintro (⟨_, h2, h3⟩ | h)
  ·exact .inl ⟨h2.symm, h3.symm⟩
  ·exact .inr (.inr h)
 ·rintro (⟨rfl, rfl⟩ | ⟨h, _⟩ | h)
  ·exact .inl ⟨rfl, rfl, rfl⟩
  ·exact absurd h hn
  ·exact .inr h
theorem Fa.last_least {st : List Int} {ls : List Sl} (h : st.Pairwise (fun a b => Sl.lvl ls b < Sl.lvl ls a)) {x : Int} (hx : x ∈ st) : Fa.run st ls ≤ Sl.lvl ls x := by
 obtain ⟨i, hi⟩ : ∃ i, st.getLast? = some i := by
  cases hl : st.getLast? with
  | none => rw [List.getLast?_eq_none_iff] at hl; subst hl; simp at hx
  | some i => exact ⟨i, rfl⟩
 rw [Fa.run_last hi]
 obtain ⟨j, hj, e⟩ := List.getElem_of_mem hx
 have hlast : st[st.length - 1]? = some i := by rw [← List.getLast?_eq_getElem?]; exact hi
 obtain ⟨hlt, e2⟩ := List.getElem?_eq_some_iff.1 hlast
 by_cases hjl : j = st.length - 1
 ·subst hjl; rw [e] at e2; rw [e2]; exact Int.le_refl _
 ·have := (List.pairwise_iff_getElem.1 h) j (st.length - 1) hj hlt (by omega)
  rw [e, e2] at this
  omega
theorem Fa.take_ok {st : List Int} {ls : List Sl} {lw : List Wt} {m : Int} (hp : Qu.parts ls lw = true) (h : Fa.Ok st ls) (hk : Sl.tkOk ls m = true) (hm : m ≤ Fa.run st ls) : Fa.Ok (st ++ [Sl.tkI ls]) (Sl.tkS ls) := by
 have hg := (Qu.parts_get hp).1
 have hg2 := (Qu.parts_get (Qu.tk_parts hp hk)).1
 have hact := Qu.tk_act hk
 obtain ⟨k, s, hb, hlt, hs, h1, hpm, e, e2⟩ := Sl.tkOk_hit hk
 have hnew : Sl.tkI ls ∉ st := fun hi => by
  obtain ⟨k2, s2, hs2, ha, hi2, hx, _⟩ := Fa.ok_slot hg h hi
  have h3 := (Sl.lvl_of hg hs (by omega)).1
  rw [e2] at hx
  rw [hx] at h3
  have : k2 = k := by omega
  subst this
  rw [hs] at hs2; injection hs2 with hs2; subst hs2
  simp [Sl.isAct, h1] at ha
 have hl : ∀ i ∈ st, Sl.lvl (Sl.tkS ls) i = Sl.lvl ls i := fun i hi => by
  obtain ⟨p, hpa⟩ := (h.2.1 i).1 hi
  rw [Sl.act_lvl hg hpa, Sl.act_lvl hg2 ((hact i p).2 (.inr hpa))]
 have hl2 : Sl.lvl (Sl.tkS ls) (Sl.tkI ls) = s.prio := by
  refine Sl.act_lvl hg2 ((hact _ _).2 (.inl ⟨rfl, ?_⟩))
  rw [hb, Sl.at_get hs]
 refine ⟨?_, fun i => ?_, ?_⟩
 ·unfold List.Nodup
  rw [List.pairwise_append]
  exact ⟨h.1, by simp, fun a ha b hb => by simp at hb; subst hb; exact fun e => hnew (e ▸ ha)⟩
 ·rw [List.mem_append, List.mem_singleton, h.2.1 i]
  constructor
  ·rintro (⟨p, hpa⟩ | rfl)
   ·exact ⟨p, (hact i p).2 (.inr hpa)⟩
   ·exact ⟨_, (hact _ _).2 (.inl ⟨rfl, rfl⟩)⟩
  ·rintro ⟨p, hpa⟩
   rcases (hact i p).1 hpa with ⟨rfl, _⟩ | hpa
   ·exact .inr rfl
   ·exact .inl ⟨p, hpa⟩
 ·rw [List.pairwise_append]
  refine ⟨?_, by simp, fun a ha b hb => ?_⟩
  ·rw [List.pairwise_iff_getElem]
   intro i j hi hj hij
   rw [hl _ (List.getElem_mem hi), hl _ (List.getElem_mem hj)]
   exact (List.pairwise_iff_getElem.1 h.2.2) i j hi hj hij
  ·simp at hb; subst hb
   rw [hl2, hl a ha]
   have := Fa.last_least h.2.2 ha
   omega

/-! ### leaving -/
theorem Sl.end_act {ls : List Sl} (hg : Sl.good ls = true) {i : Int} (hk : Sl.endOk ls i = true) (j q : Int) : Sl.Act (Sl.endR ls i) j q ↔ Sl.Act ls j q ∧ j ≠ i := by
 obtain ⟨k, s, hx, _, hs, h0, hi, h1, e⟩ := Sl.endOk_hit hk
 rw [e, Sl.act_set hs, Sl.act_at hs]
 have hn : ¬ Sl.isAct (Sl.ended s) = true := by
  unfold Sl.ended; split <;> simp [Sl.isAct]
 constructor
 ·rintro (⟨h, _⟩ | ⟨j', u, hj, hu, ha, h2, h3⟩)
  ·exact absurd h hn
  ·refine ⟨.inr ⟨j', u, hj, hu, ha, h2, h3⟩, ?_⟩
   rw [← h2, ← hi]
   exact Sl.good_two hg hj hu hs (Sl.isAct_used ha) h0
 ·rintro ⟨⟨_, h2, _⟩ | h, hne⟩
  ·exact absurd (h2.symm.trans hi) hne
  ·exact .inr h
theorem Sl.act_endOk {ls : List Sl} (hg : Sl.good ls = true) {i p : Int} (h : Sl.Act ls i p) : Sl.endOk ls i = true := by
 obtain ⟨s, hs, ha, rfl, _⟩ := h
 obtain ⟨k, hk⟩ := List.getElem?_of_mem hs
 have hx := (Sl.lvl_of hg hk (Sl.isAct_used ha)).1
 exact (Sl.end_hit hx hk (fun e => by simp [Sl.isAct, e] at ha)).1
theorem Fa.leave_ok {st : List Int} {ls : List Sl} {lw : List Wt} {i : Int} (hp : Qu.parts ls lw = true) (h : Fa.Ok (st ++ [i]) ls) : Sl.endOk ls i = true ∧ Fa.Ok st (Qu.enP ls lw i).1 := by
 have hg := (Qu.parts_get hp).1
 obtain ⟨p0, hpa0⟩ := (h.2.1 i).1 (by simp)
 have hk := Sl.act_endOk hg hpa0
 have hg2 := (Qu.parts_get (Qu.good_parts (Qu.eiP_good hp hk)).1).1
 have hact : ∀ j q, Sl.Act (Qu.enP ls lw i).1 j q ↔ Sl.Act ls j q ∧ j ≠ i := fun j q => by rw [Qu.enP, Qu.st_act]; exact Sl.end_act hg hk j q
 obtain ⟨hn, hm, hd⟩ := h
 unfold List.Nodup at hn
 rw [List.pairwise_append] at hn hd
 have hni : ∀ x ∈ st, x ≠ i := fun x hx => hn.2.2 x hx i (by simp)
 have hl : ∀ x ∈ st, Sl.lvl (Qu.enP ls lw i).1 x = Sl.lvl ls x := fun x hx => by
  obtain ⟨p, hpa⟩ := (hm x).1 (by simp [hx])
  rw [Sl.act_lvl hg hpa, Sl.act_lvl hg2 ((hact x p).2 ⟨hpa, hni x hx⟩)]
 refine ⟨hk, hn.1, fun x => ?_, ?_⟩
 ·constructor
  ·intro hx
   obtain ⟨p, hpa⟩ := (hm x).1 (by simp [hx])
   exact ⟨p, (hact x p).2 ⟨hpa, hni x hx⟩⟩
  ·rintro ⟨p, hpa⟩
   obtain ⟨hpa, hne⟩ := (hact x p).1 hpa
   rcases List.mem_append.1 ((hm x).2 ⟨p, hpa⟩) with hx | hx
   ·exact hx
   ·exact absurd (by simpa using hx) hne
 ·rw [List.pairwise_iff_getElem]
  intro a b ha hb hab
  rw [hl _ (List.getElem_mem ha), hl _ (List.getElem_mem hb)]
  exact (List.pairwise_iff_getElem.1 hd.1) a b ha hb hab

end Go.Proofs.YtndfmkbpdoohfaaGreat

/- Small functions that processor interfaces lean on, in the program and in the reference. Conditions: at most 1048576 numbers; the interrupt lies in a slot. -/
namespace Go.Proofs.YtndfmkbpdoohfaaGreat
open Go.RowKit Go.ChangeShapes Go.WideShapes Go.Deep

theorem l1Own_any (v : Value) (l : List Int) (w : World) {lo hi : Nat} (h : Rd Nm.cells 1 w lo hi v l) (hh : hi ≤ w.heap.size) (hl : l.length ≤ 1048576) :
  Calls Tryz.prog 77 #[v] w fun e w' => ∃ v', e = .returned v' ∧ Ow Nm.cells 1 3 w' w.heap.size w'.heap.size v' l ∧ Below w.heap.size w w' := by
 have o4 := own_empty w (base := w.heap.size) 3 1 (Nat.le_refl _)
 have b4 := (Below.refl w.heap.size w).alloc (Nat.le_refl _) (.cells #[] 3)
 have h4 := h.below b4 hh
 obtain ⟨A, n, c, rfl, H, hc, hm⟩ := h.form
 rw [← H.out] at hl
 go_enter Tryz.func77, Tryz.ntmps77
 go_wp2_with (at_builtin; (refine Nm.app_rd rfl _ _ rfl w.heap.size (.slice (some ⟨w.heap.size, 0, none⟩) 0 0) 0 [] rfl o4 rfl h4 (by omega) (by simp) ?_); (intro v3 w3 o3 g3))
 have oR := Ow.of_own Nm.cells_len o3 (l := l) (by simp) (by rw [← H.out]; omega)
 have b3 : Below w.heap.size w w3 := b4.grown g3 (by simp) (own_ge o4)
 obtain ⟨A3, n3, d3, rfl, _, _, _⟩ := oR.rd.form
 go_ret
 exact ⟨.slice A3 n3 d3, rfl, oR, b3⟩
theorem copyInts_any (v : Value) (l : List Int) (w : World) {lo hi : Nat} (h : Rd Nm.cells 1 w lo hi v l) (hh : hi ≤ w.heap.size) (hl : l.length ≤ 1048576) :
  Calls Tryz.prog 40 #[v] w fun e w' => ∃ v', e = .returned v' ∧ Ow Nm.cells 1 3 w' w.heap.size w'.heap.size v' l ∧ Below w.heap.size w w' := by
 have o4 := own_empty w (base := w.heap.size) 3 1 (Nat.le_refl _)
 have b4 := (Below.refl w.heap.size w).alloc (Nat.le_refl _) (.cells #[] 3)
 have h4 := h.below b4 hh
 obtain ⟨A, n, c, rfl, H, hc, hm⟩ := h.form
 rw [← H.out] at hl
 go_enter Tryz.func40, Tryz.ntmps40
 go_wp2_with (at_builtin; (refine Nm.app_rd rfl _ _ rfl w.heap.size (.slice (some ⟨w.heap.size, 0, none⟩) 0 0) 0 [] rfl o4 rfl h4 (by omega) (by simp) ?_); (intro v3 w3 o3 g3))
 have oR := Ow.of_own Nm.cells_len o3 (l := l) (by simp) (by rw [← H.out]; omega)
 have b3 : Below w.heap.size w w3 := b4.grown g3 (by simp) (own_ge o4)
 obtain ⟨A3, n3, d3, rfl, _, _, _⟩ := oR.rd.form
 go_ret
 exact ⟨.slice A3 n3 d3, rfl, oR, b3⟩
theorem l1Least_any (a b : Int) (w : World) : Calls Tryz.prog 76 #[.int .i64 a, .int .i64 b] w fun e w' => e = .returned (.int .i64 (minI a b)) ∧ w = w' := by
 by_cases h : a < b
 ·have HF := Lib.hid (show minI a b = a from if_pos h)
  go_enter Tryz.func76, Tryz.ntmps76
  go_wp2_with fail
  go_ret
  exact ⟨ret_int HF.out.symm, rfl⟩
 ·have HF := Lib.hid (show minI a b = b from if_neg h)
  go_enter Tryz.func76, Tryz.ntmps76
  go_wp2_with fail
  go_ret
  exact ⟨ret_int HF.out.symm, rfl⟩
theorem equalInts_any (v1 v2 : Value) (l1 l2 : List Int) (w : World) {lo1 hi1 lo2 hi2 : Nat} (h1 : Rd Nm.cells 1 w lo1 hi1 v1 l1) (h2 : Rd Nm.cells 1 w lo2 hi2 v2 l2) (hh1 : hi1 ≤ w.heap.size) (hh2 : hi2 ≤ w.heap.size) :
  Calls Tryz.prog 42 #[v1, v2] w fun e w' => e = .returned (.bool (l1 == l2)) ∧ Below w.heap.size w w' := by
 obtain ⟨A, n, c, rfl, H, hc, hm⟩ := h1.form
 obtain ⟨A2, n2, c2, rfl, H2, hc2, hm2⟩ := h2.form
 by_cases hn : n = n2
 ·subst hn
  have hnd : ((n : Int) != (n : Int)) = false := by simp
  go_enter Tryz.func42, Tryz.ntmps42
  go_wp2_with fail
  go_loopw [13] (fun i wr => ∃ k : Nat, k ≤ n ∧ i = .int .i64 k ∧ Below w.heap.size w wr ∧ Hid (l1.take k = l2.take k)) (fun i _ => n - (intOf i).toNat)
  case atStart => exact ⟨0, Nat.zero_le _, rfl, Below.refl _ _, Lib.hid rfl⟩
  case round =>
   obtain ⟨k, hk, rfl, hb, HE⟩ := hrel
   by_cases hlt : k < n
   ·obtain ⟨b, off, x, rfl, hx, _, _, f0⟩ := Nm.get h1 hlt hb hh1
    obtain ⟨b2, off2, y, rfl, hy, _, _, g0⟩ := Nm.get h2 hlt hb hh2
    have hki : (k : Int) < (n : Int) := by omega
    by_cases hq : x = y
    ·subst hq
     have HE2 := Lib.hid (show l1.take (k + 1) = l2.take (k + 1) from by rw [List.take_add_one, List.take_add_one, HE.out, hx.out, hy.out])
     have hqd : (x != x) = false := by simp
     clear HE
     go_wp2_with fail
     go_quiet (fail)
     go_wp2_with fail
     go_roundw
     case rel => exact ⟨k + 1, by omega, by go_num, below_drewN hb _, HE2⟩
     case measure => simp [intOf]; omega
    ·have HF := Lib.hid (show (l1 == l2) = false from by
      rw [beq_eq_false_iff_ne]
      intro e
      have h3 := hx.out
      rw [e, hy.out] at h3
      exact hq (Option.some.inj h3).symm)
     have hqd : (x != y) = true := by simpa using hq
     go_wp2_with fail
     go_quiet (fail)
     go_wp2_with fail
     go_ret
     exact ⟨ret_bool HF.out.symm, below_drewN hb _⟩
   ·have HF := Lib.hid (show (l1 == l2) = true from by
     have hkn : k = n := by omega
     have h3 := HE.out
     rw [List.take_of_length_le (by rw [← H.out]; omega), List.take_of_length_le (by rw [← H2.out]; omega)] at h3
     simpa using h3)
    go_wp2_with fail
    go_ret
    exact ⟨ret_bool HF.out.symm, hb⟩
 ·have HF := Lib.hid (show (l1 == l2) = false from by
   rw [beq_eq_false_iff_ne]
   intro e
   apply hn
   rw [H.out, H2.out, e])
  have hnd : ((n : Int) != (n2 : Int)) = true := by rw [bne_iff_ne]; omega
  go_enter Tryz.func42, Tryz.ntmps42
  go_wp2_with fail
  go_ret
  exact ⟨ret_bool HF.out.symm, Below.refl _ _⟩
theorem priorityIn_any (v : Value) (ls : List Sl) (i : Int) (w : World) {lo hi : Nat} (h : Rd Sl.cells 3 w lo hi v ls) (hh : hi ≤ w.heap.size) {k : Nat} (hk : Sl.ix ls i = k) (hkl : k < ls.length) :
  Calls Tryz.prog 44 #[v, .int .i64 i] w fun e w' => e = .returned (.int .i64 (Sl.lvl ls i)) ∧ Below w.heap.size w w' := by
 have c1 := implFind_b v ls i w h hh
 obtain ⟨A, n, c, rfl, H, hc, hm⟩ := h.form
 have hkn : k < n := by rw [H.out]; exact hkl
 have hki : (k : Int) < (n : Int) := by omega
 have hs := List.getElem?_eq_getElem hkl
 have HF := Lib.hid (show Sl.lvl ls i = (ls[k]).prio from by rw [Sl.lvl, hk, Sl.at_get hs])
 have HS := Lib.hid hs
 rw [hk] at c1
 clear hk hs
 generalize ls[k] = s at HF HS
 go_enter Tryz.func44, Tryz.ntmps44
 go_wp2_with fail
 refine c1.mono ?_; rintro q_ w1 ⟨rfl, b1⟩
 obtain ⟨b, off, s', rfl, hs', _, _, f0, f1, f2⟩ := Sl.get h hkn b1 hh
 obtain rfl : s = s' := Option.some.inj (HS.out.symm.trans hs'.out)
 clear hs'
 go_wp2_with fail
 go_ret
 exact ⟨ret_int HF.out.symm, b1⟩
set_option maxHeartbeats 2000000 in
theorem l10Level_any (vs vw : Value) (ls : List Sl) (i : Int) (w : World) {lo hi : Nat} (h : Rd Sl.cells 3 w lo hi vs ls) (hh : hi ≤ w.heap.size) {k : Nat} (hk : Sl.ix ls i = k) (hkl : k < ls.length) :
  Calls Tryz.prog 74 #[.agg #[vs, vw], .int .i64 i] w fun e w' => e = .returned (.int .i64 (Sl.lvl ls i)) ∧ Below w.heap.size w w' := by
 have b0 := (Below.refl w.heap.size w).alloc (Nat.le_refl _) (.cells #[vs, vw] 28)
 have z0 : (w.alloc (.cells #[vs, vw] 28)).heap.size = w.heap.size + 1 := by simp
 have bq := Box.new w #[vs, vw] 28 rfl
 have h' := h.below b0 hh
 obtain ⟨A, n, c, rfl, H, hc, hm⟩ := h.form
 clear h
 have hkn : k < n := by rw [H.out]; exact hkl
 have hki : (k : Int) < (n : Int) := by omega
 have hs := List.getElem?_eq_getElem hkl
 have HF := Lib.hid (show Sl.lvl ls i = (ls[k]).prio from by rw [Sl.lvl, hk, Sl.at_get hs])
 have HS := Lib.hid hs
 have HK := Lib.hid hk
 clear hk hs
 generalize ls[k] = s at HF HS
 go_enter Tryz.func74, Tryz.ntmps74
 go_wp2_with fail
 generalize w.alloc _ = w0 at *
 have x0 := bq.c0
 obtain ⟨b, off, s', rfl, hs', _, hb1, f0, f1, f2⟩ := Sl.get h' hkn (Below.refl w0.heap.size w0) (by omega)
 obtain rfl : s = s' := Option.some.inj (HS.out.symm.trans hs'.out)
 clear hs'
 have c1 := fun W hs hh => (l8Find_any (.slice (some ⟨b, off, none⟩) n c) ls i W (lo := lo) (hi := hi) hs hh).mono (R' := fun e w' => e = .returned (.int .i64 k) ∧ w' = W) (fun e w' h => ⟨h.1.trans (ret_int HK.out), h.2.symm⟩)
 go_quiet ((go_at_call 100; refine Calls.quiet_of_same (c1 _ (h'.drewN _) (by simp; omega))))
 go_wp2_with fail
 go_ret
 exact ⟨ret_int HF.out.symm, below_drewN b0 _⟩

end Go.Proofs.YtndfmkbpdoohfaaGreat

/- slices.Delete of one waiting interrupt from a row of the call's own. Condition: the place lies in the row. -/
namespace Go.Proofs.YtndfmkbpdoohfaaGreat
open Go.RowKit Go.ChangeShapes Go.WideShapes Go.Deep

theorem setCells_setL2 (b : Nat) : ∀ (vs : List Value) (w : World) (o : Nat), w.setCells b o vs = setL w b o vs
 | [], _, _ => rfl
 | v :: vs, w, o => by unfold World.setCells setL; exact setCells_setL2 b vs _ (o + 1)

/-- one element less: what stood behind it has moved down, the last place is whatever -/
theorem Ow.erase {α : Type} {cells : α → List Value} {sz : Nat} {E : TypeId} {w : World} {lo hi b off n c k : Nat} {l : List α} (hs : ∀ y, (cells y).length = sz) (hsz : 0 < sz) (h : Ow cells sz E w lo hi (.slice (some ⟨b, off, none⟩) n c) l) (hk : k < n) (vs : List Value) (hv : vs.length = sz) :
  Ow cells sz E (setL (setL w b (off + k * sz) ((l.drop (k + 1)).flatMap cells)) b (off + (n - 1) * sz) vs) lo hi (.slice (some ⟨b, off, none⟩) (n - 1) c) (l.eraseIdx k) := by
 obtain ⟨A', c', hv', hc, hm, h⟩ := h
 injection hv' with e1 e2 e3
 subst e1; subst e2; subst e3
 obtain ⟨b', off', cur, hA, hb1, hb2, hh, hzz, hx⟩ := h (by omega)
 injection hA with hA
 injection hA with e1 e2
 subst e1; subst e2
 have hlast : off + l.length * sz ≤ cur.size := by
  have hl : l[l.length - 1]? = some (l[l.length - 1]'(by omega)) := List.getElem?_eq_getElem _
  have hj : (cells (l[l.length - 1]'(by omega)))[sz - 1]? = some ((cells (l[l.length - 1]'(by omega)))[sz - 1]'(by rw [hs]; omega)) := List.getElem?_eq_getElem _
  have := (Array.getElem?_eq_some_iff.1 (hx _ _ hl _ _ hj)).1
  have e : l.length * sz = (l.length - 1) * sz + sz := by rw [← Nat.succ_mul]; congr 1; omega
  omega
 have hdl : (l.drop (k + 1)).length = l.length - (k + 1) := List.length_drop
 have hfl : ((l.drop (k + 1)).flatMap cells).length = (l.length - (k + 1)) * sz := by rw [flat_len hs, hdl]
 have hmul : k * sz + (l.length - (k + 1)) * sz + sz = l.length * sz := by
  rw [← Nat.add_mul, ← Nat.succ_mul]; congr 1; omega
 have hm1 : (l.length - 1) * sz + sz = l.length * sz := by rw [← Nat.succ_mul]; congr 1; omega
 obtain ⟨c1, f1, f2, f3, f4⟩ := setL_row E ((l.drop (k + 1)).flatMap cells) w b (off + k * sz) cur hh (by rw [hfl]; omega)
 obtain ⟨c2, g1, g2, g3, g4⟩ := setL_row E vs (setL w b (off + k * sz) ((l.drop (k + 1)).flatMap cells)) b (off + (l.length - 1) * sz) c1 f1 (by rw [hv]; omega)
 have hel : (l.eraseIdx k).length = l.length - 1 := by rw [List.length_eraseIdx, if_pos hk]
 refine ⟨_, c, by rw [hel], by omega, hm, fun hn => ⟨b, off, c2, rfl, hb1, hb2, g1, by omega, fun i x hi j u hu => ?_⟩⟩
 have hj : j < sz := by rw [← hs x]; exact (List.getElem?_eq_some_iff.1 hu).1
 have hil : i < l.length - 1 := by rw [← hel]; exact (List.getElem?_eq_some_iff.1 hi).1
 have hmi : (i + 1) * sz ≤ (l.length - 1) * sz := Nat.mul_le_mul_right _ (by omega)
 rw [Nat.succ_mul] at hmi
 rw [g4 _ (by omega)]
 rw [List.getElem?_eraseIdx] at hi
 split at hi
 ·rename_i hik
  have hmk : (i + 1) * sz ≤ k * sz := Nat.mul_le_mul_right _ (by omega)
  rw [Nat.succ_mul] at hmk
  rw [f4 _ (by omega)]
  exact hx i x hi j u hu
 ·rename_i hik
  have h1 : (l.drop (k + 1))[i - k]? = some x := by rw [List.getElem?_drop, show k + 1 + (i - k) = i + 1 by omega]; exact hi
  have h2 := f3 _ u (flat_get hs _ _ x j u h1 hu)
  have hmul2 : k * sz + (i - k) * sz = i * sz := by rw [← Nat.add_mul]; congr 1; omega
  rw [show off + k * sz + ((i - k) * sz + j) = off + i * sz + j by omega] at h2
  exact h2


end Go.Proofs.YtndfmkbpdoohfaaGreat

/- The library's sort of numbers, of any length, by the kit's contract: the library's functions of this program are those of the contract, number by number. Condition: at most 1048576 numbers. -/
namespace Go.Proofs.YtndfmkbpdoohfaaGreat
open Go.RowKit Go.ChangeShapes Go.WideShapes Go.Deep

def laysSort_ren : Go.Shelf.Ren := ⟨fun | 189 => 41 | 125 => 84 | 257 => 83 | 128 => 117 | 129 => 118 | 294 => 108 | 295 => 109 | 296 => 110 | 297 => 111 | 298 => 112 | 299 => 113 | 216 => 114 | 300 => 115 | 301 => 116 | 328 => 142 | 329 => 143 | 330 => 144 | 331 => 145 | 332 => 146 | 215 => 147 | 343 => 149 | n => n, fun | 28 => 24 | 3 => 3 | 46 => 91 | 0 => 0 | 51 => 123 | 53 => 65 | 4 => 4 | 183 => 116 | 182 => 115 | 131 => 38 | 5 => 5 | 9 => 9 | 218 => 136 | 222 => 140 | 228 => 143 | 229 => 144 | n => n, fun | n => n⟩
theorem laysSort : Go.Proofs.Lays.n189 Tryz.prog laysSort_ren where
 mixed := by kernel_rfl
 f125 := Tryz.func84.trans (congrArg some (by kernel_rfl))
 f128 := Tryz.func117.trans (congrArg some (by kernel_rfl))
 f129 := Tryz.func118.trans (congrArg some (by kernel_rfl))
 f189 := Tryz.func41.trans (congrArg some (by kernel_rfl))
 f215 := Tryz.func147.trans (congrArg some (by kernel_rfl))
 f216 := Tryz.func114.trans (congrArg some (by kernel_rfl))
 f257 := Tryz.func83.trans (congrArg some (by kernel_rfl))
 f294 := Tryz.func108.trans (congrArg some (by kernel_rfl))
 f295 := Tryz.func109.trans (congrArg some (by kernel_rfl))
 f296 := Tryz.func110.trans (congrArg some (by kernel_rfl))
 f297 := Tryz.func111.trans (congrArg some (by kernel_rfl))
 f298 := Tryz.func112.trans (congrArg some (by kernel_rfl))
 f299 := Tryz.func113.trans (congrArg some (by kernel_rfl))
 f300 := Tryz.func115.trans (congrArg some (by kernel_rfl))
 f301 := Tryz.func116.trans (congrArg some (by kernel_rfl))
 f328 := Tryz.func142.trans (congrArg some (by kernel_rfl))
 f329 := Tryz.func143.trans (congrArg some (by kernel_rfl))
 f330 := Tryz.func144.trans (congrArg some (by kernel_rfl))
 f331 := Tryz.func145.trans (congrArg some (by kernel_rfl))
 f332 := Tryz.func146.trans (congrArg some (by kernel_rfl))
 f343 := Tryz.func149.trans (congrArg some (by kernel_rfl))
 t0 := Tryz.underlying0
 a0 := Tryz.isAgg0
 z0 := Tryz.sizeOf0
 v0 := Tryz.zeroValue0
 t3 := Tryz.underlying3
 a3 := Tryz.isAgg3
 z3 := Tryz.sizeOf3
 v3 := Tryz.zeroValue3
 t4 := Tryz.underlying4
 a4 := Tryz.isAgg4
 z4 := Tryz.sizeOf4
 v4 := Tryz.zeroValue4
 t5 := Tryz.underlying5
 a5 := Tryz.isAgg5
 z5 := Tryz.sizeOf5
 v5 := Tryz.zeroValue5
 t9 := Tryz.underlying9
 a9 := Tryz.isAgg9
 z9 := Tryz.sizeOf9
 v9 := Tryz.zeroValue9
 t28 := Tryz.underlying24
 a28 := Tryz.isAgg24
 z28 := Tryz.sizeOf24
 v28 := Tryz.zeroValue24
 t46 := Tryz.underlying91
 a46 := Tryz.isAgg91
 z46 := Tryz.sizeOf91
 v46 := Tryz.zeroValue91
 t51 := Tryz.underlying123
 a51 := Tryz.isAgg123
 z51 := Tryz.sizeOf123
 v51 := Tryz.zeroValue123
 t53 := Tryz.underlying65
 a53 := Tryz.isAgg65
 z53 := Tryz.sizeOf65
 v53 := Tryz.zeroValue65
 t131 := Tryz.underlying38
 a131 := Tryz.isAgg38
 z131 := Tryz.sizeOf38
 v131 := Tryz.zeroValue38
 t182 := Tryz.underlying115
 a182 := Tryz.isAgg115
 z182 := Tryz.sizeOf115
 v182 := Tryz.zeroValue115
 t183 := Tryz.underlying116
 a183 := Tryz.isAgg116
 z183 := Tryz.sizeOf116
 v183 := Tryz.zeroValue116
 t218 := Tryz.underlying136
 a218 := Tryz.isAgg136
 z218 := Tryz.sizeOf136
 v218 := Tryz.zeroValue136
 t222 := Tryz.underlying140
 a222 := Tryz.isAgg140
 z222 := Tryz.sizeOf140
 v222 := Tryz.zeroValue140
 t228 := Tryz.underlying143
 a228 := Tryz.isAgg143
 z228 := Tryz.sizeOf143
 v228 := Tryz.zeroValue143
 t229 := Tryz.underlying144
 a229 := Tryz.isAgg144
 z229 := Tryz.sizeOf144
 v229 := Tryz.zeroValue144

theorem sortI_any (w0 : World) (A : Option Addr) (n c : Nat) (l : List Int) (hl : l.length ≤ 1048576) (w : World) {hi : Nat} (hb0 : Below w0.heap.size w0 w) (h : Ow Nm.cells 1 3 w w0.heap.size hi (.slice A n c) l) (hh : hi ≤ w.heap.size) :
  Calls Tryz.prog 41 #[.slice A n c] w fun e w' => e = .returned (.tuple #[]) ∧ Ow Nm.cells 1 3 w' w0.heap.size hi (.slice A n c) (l.mergeSort fun x y => decide (x ≤ y)) ∧ hi ≤ w'.heap.size ∧ Below w0.heap.size w0 w' := by
 have hn := h.rd.n_eq
 rcases Nat.eq_zero_or_pos l.length with h0 | h0
 ·have : l = [] := List.eq_nil_of_length_eq_zero h0
  subst this
  have := sortInts_any w0 _ [] (by simp) w hb0 h hh
  simpa [sortK, List.mergeSort] using this
 ·have hpos : 0 < n := by omega
  obtain ⟨b, off, x, rfl, _, hb1, hb2, _⟩ := Nm.get h.rd hpos (Below.refl w.heap.size w) hh
  have hcell : ∀ j, j < l.length → w.cell? ⟨b, off + j, none⟩ = some (.int .i64 (l.getD j 0)) := fun j hj => by
   obtain ⟨_, _, y, e, hy, _, _, f0⟩ := Nm.get h.rd (k := j) (by omega) (Below.refl w.heap.size w) hh
   injection e with e
   injection e with e1 e2
   subst e1; subst e2
   rw [f0, List.getD_eq_getElem?_getD, hy.out]; rfl
  have hfz := h.frozen hpos
  have hH := Lib.holds_of_ints (n := n) (zs := l) (w := w) (b := b) (off := off) (by omega) hcell (fun j _ => hfz _)
  have hlt : l.take n = l := List.take_of_length_le (by omega)
  rw [hlt] at hH
  have hcon := Any.slices_Sort_int laysSort b off c l w hH (by omega) (by omega)
  rw [← hn.1] at hcon
  refine hcon.mono ?_
  rintro e w' ⟨rfl, q, os, hw⟩
  have hw2 := hw.trans (Lib.sorted_world _ w b off q _ _ os hH (by simp))
  rw [setCells_setL2] at hw2
  have hml : (l.mergeSort fun x y => decide (x ≤ y)).length = l.length := List.length_mergeSort _
  have hg : (w.drewN q).grownBy w' (some b) := by
   rw [hw2]
   have h1 := setL_grown ((l.mergeSort fun x y => decide (x ≤ y)).map (Value.int .i64)) (w.drewN q) b off
   exact ⟨h1.os, h1.tape, h1.output, Nat.le_trans h1.size (by simp [Go.Sort.grow]), fun i hi hne => by
    rw [← h1.block i hi hne]
    simp only [Go.Sort.grow, Array.getElem?_append]
    rw [if_pos (by have := h1.size; omega)]⟩
  have hsz : w.heap.size ≤ w'.heap.size := hg.size
  refine ⟨rfl, ?_, by omega, (below_drewN hb0 q).grown hg (by have := hb0.size; exact this) (fun j hj => by injection hj with hj; omega)⟩
  obtain ⟨A', c', hv, hc, hm, hx⟩ := h
  injection hv with e1 e2 e3
  subst e1; subst e2; subst e3
  refine ⟨_, c, by rw [hml], by omega, hm, fun _ => ?_⟩
  obtain ⟨b', off', cur, hA, h1, h2, hh', hz9, hx⟩ := hx (by omega)
  injection hA with hA
  injection hA with e1 e2
  subst e1; subst e2
  have hsize : off + l.length ≤ cur.size := by
   have hl2 : l[l.length - 1]? = some (l[l.length - 1]'(by omega)) := List.getElem?_eq_getElem _
   have := (Array.getElem?_eq_some_iff.1 (hx _ _ hl2 0 _ rfl)).1
   omega
  obtain ⟨cur', f1, f2, f3, _⟩ := setL_row 3 ((l.mergeSort fun x y => decide (x ≤ y)).map (Value.int .i64)) (w.drewN q) b off cur hh' (by rw [List.length_map, hml]; exact hsize)
  refine ⟨b, off, cur', rfl, h1, h2, ?_, by omega, fun k x hk j u hu => ?_⟩
  ·rw [hw2]
   simp only [Go.Sort.grow, Array.getElem?_append]
   rw [if_pos (by have := (Array.getElem?_eq_some_iff.1 f1).1; exact this)]
   exact f1
  ·have hj : j = 0 := by have := (List.getElem?_eq_some_iff.1 hu).1; simp [Nm.cells] at this; omega
   subst hj
   simp only [Nm.cells, List.getElem?_cons_zero, Option.some.injEq] at hu
   subst hu
   have := f3 k (.int .i64 x) (by rw [List.getElem?_map, hk]; rfl)
   rwa [Nat.mul_one, Nat.add_zero]

end Go.Proofs.YtndfmkbpdoohfaaGreat

/- Whether a processor interface is valid, in the program and in the reference. Condition: at most 1048576 numbers on the stack. -/
namespace Go.Proofs.YtndfmkbpdoohfaaGreat
open Go.RowKit Go.ChangeShapes Go.WideShapes Go.Deep

theorem Fa.good_no1 {m : Int} {st : List Int} {ls : List Sl} {lw : List Wt} (h : inB m 0 16 = false) : Fa.good m st ls lw = false := by simp [Fa.good, h]
theorem Fa.good_no2 {m : Int} {st : List Int} {ls : List Sl} {lw : List Wt} (h : Qu.good ls lw = false) : Fa.good m st ls lw = false := by simp [Fa.good, h]
theorem Fa.good_at {m : Int} {st : List Int} {ls : List Sl} {lw : List Wt} (h : inB m 0 16 = true) (h2 : Qu.good ls lw = true) : Fa.good m st ls lw = (Fa.same st ls && Fa.descTo ls st st.length) := by simp [Fa.good, h, h2]
theorem Fa.desc_mono {ls : List Sl} {st : List Int} {k n : Nat} (hk : k ≤ n) (h : Fa.descTo ls st n = true) : Fa.descTo ls st k = true := Fa.descTo_iff.2 fun j hj => Fa.descTo_iff.1 h j (by omega)
/-- an active interrupt lies in a slot -/
theorem Sl.active_ix {ls : List Sl} (hg : Sl.good ls = true) {i : Int} (h : i ∈ Sl.active ls) : ∃ k : Nat, Sl.ix ls i = k ∧ k < ls.length := by
 obtain ⟨p, s, hs, ha, rfl, _⟩ := Sl.act_active.1 h
 obtain ⟨k, hk⟩ := List.getElem?_of_mem hs
 exact ⟨k, (Sl.lvl_of hg hk (Sl.isAct_used ha)).1, (List.getElem?_eq_some_iff.1 hk).1⟩

set_option maxHeartbeats 1600000 in
theorem implIsInterface_any (m : Int) (vt vs vw : Value) (st : List Int) (ls : List Sl) (lw : List Wt) (w : World) {lo hi lo2 hi2 lo3 hi3 : Nat} (h0 : Rd Nm.cells 1 w lo3 hi3 vt st) (h : Rd Sl.cells 3 w lo hi vs ls) (h2 : Rd Wt.cells 2 w lo2 hi2 vw lw) (hh0 : hi3 ≤ w.heap.size) (hh : hi ≤ w.heap.size) (hh2 : hi2 ≤ w.heap.size) (hl : st.length ≤ 1048576) :
  Calls Tryz.prog 10 #[.agg #[.int .i64 m, vt, vs, vw]] w fun e w' => e = .returned (.bool (Fa.good m st ls lw)) ∧ Below w.heap.size w w' := by
 have b0 := (Below.refl w.heap.size w).alloc (Nat.le_refl _) (.cells #[.int .i64 m, vt, vs, vw] 30)
 have z0 : (w.alloc (.cells #[.int .i64 m, vt, vs, vw] 30)).heap.size = w.heap.size + 1 := by simp
 have bx := Box.new w #[.int .i64 m, vt, vs, vw] 30 rfl
 have ht := h0.below b0 hh0
 have hs := h.below b0 hh
 have hw := h2.below b0 hh2
 have hv0 := h0.form
 have hv := h.form
 have hv2 := h2.form
 clear h0 h h2
 generalize hwA : w.alloc (.cells #[.int .i64 m, vt, vs, vw] 30) = wA at *
 obtain ⟨At, nt, dt, rfl, Ht, hdt, hmt⟩ := hv0
 obtain ⟨A0, n0, d0, rfl, H0, hd0, hm0⟩ := hv
 obtain ⟨A1, n1, d1, rfl, H1, hd1, hm1⟩ := hv2
 have c1 := fun W => isMask_any m W
 have c2 := implIsQueue_any _ _ ls lw wA hs hw (by omega) (by omega)
 have x0 := bx.c0
 have x1 := bx.c1
 have x2 := bx.c2
 have x3 := bx.c3
 cases hm : inB m 0 16
 ·have HF := Lib.hid (Fa.good_no1 (st := st) (ls := ls) (lw := lw) hm)
  rw [hm] at c1
  clear hm
  go_enter Tryz.func10, Tryz.ntmps10
  go_wp2_with fail
  refine (c1 _).mono ?_; rintro q_ w_ ⟨rfl, rfl⟩
  go_wp2_with fail
  go_ret
  exact ⟨ret_bool HF.out.symm, b0⟩
 rw [hm] at c1
 cases hq : Qu.good ls lw
 ·have HF := Lib.hid (Fa.good_no2 (m := m) (st := st) hq)
  rw [hq] at c2
  clear hm hq
  go_enter Tryz.func10, Tryz.ntmps10
  go_wp2_with fail
  refine (c1 _).mono ?_; rintro q_ w_ ⟨rfl, rfl⟩
  go_wp2_with fail
  refine c2.mono ?_; rintro q_ w1 ⟨rfl, b1⟩
  go_wp2_with fail
  go_ret
  exact ⟨ret_bool HF.out.symm, b0.trans (b1.mono (by omega))⟩
 rw [hq] at c2
 have HG := Lib.hid (Qu.parts_get (Qu.good_parts hq).1).1
 have HA := Lib.hid (Fa.good_at (st := st) hm hq)
 clear hm hq
 go_enter Tryz.func10, Tryz.ntmps10
 go_wp2_with fail
 clear hwA
 refine (c1 _).mono ?_; rintro q_ w_ ⟨rfl, rfl⟩
 go_wp2_with fail
 refine c2.mono ?_; rintro q_ w1 ⟨rfl, b1⟩
 replace bx := bx.below b1 bx.lt
 have z1 := b1.size
 replace ht := ht.below b1 (by omega)
 replace hs := hs.below b1 (by omega)
 replace b0 := b0.trans (b1.mono (by omega))
 clear b1 x0 x1 x2 x3 hw c1 c2
 have x1 := bx.c1
 go_wp2_with fail
 refine (copyInts_any _ st w1 ht (by omega) hl).mono ?_; rintro q_ w2 ⟨v3, rfl, o3, b2⟩
 obtain ⟨A3, n3, d3, rfl, _, _, _⟩ := o3.rd.form
 clear x1
 have x1 := bx.below b2 bx.lt
 go_wp2_with fail
 refine (sortI_any w1 A3 n3 d3 st hl w2 b2 o3 (Nat.le_refl _)).mono ?_; rintro q_ w3 ⟨rfl, o4, hh4, b3⟩
 have z2 := b2.size
 have z3 := b3.size
 replace bx := bx.below b3 bx.lt
 replace ht := ht.below b3 (by omega)
 replace hs := hs.below b3 (by omega)
 replace b0 := b0.trans (b3.mono (by omega))
 clear b2 b3 x1 o3
 have x1 := bx.c1
 have x2 := bx.c2
 have x3 := bx.c3
 go_wp2_with fail
 refine (activeIrqs_any _ ls w3 hs (by omega) HG.out).mono ?_; rintro q_ w4 ⟨v5, rfl, o5, b4⟩
 have z4 := b4.size
 replace bx := bx.below b4 bx.lt
 replace ht := ht.below b4 (by omega)
 replace hs := hs.below b4 (by omega)
 replace o4 := o4.below b4 (by omega)
 replace b0 := b0.trans (b4.mono (by omega))
 obtain ⟨A5, n5, d5, rfl, _, _, _⟩ := o5.rd.form
 have c3 := equalInts_any _ _ _ _ w4 o4.rd o5.rd (by omega) (by omega)
 clear b4 x1 x2 x3
 cases he : ((st.mergeSort fun x y => decide (x ≤ y)) == Sl.active ls)
 ·have HF := Lib.hid (HA.out.trans (show (Fa.same st ls && Fa.descTo ls st st.length) = false from by simp [Fa.same, he]))
  rw [he] at c3
  clear he HA HG
  go_wp2_with fail
  refine c3.mono ?_; rintro q_ w5 ⟨rfl, b5⟩
  replace b0 := b0.trans (b5.mono (by omega))
  go_wp2_with fail
  go_ret
  exact ⟨ret_bool HF.out.symm, b0⟩
 have HS := Lib.hid (show Fa.same st ls = true from he)
 replace HA := Lib.hid (HA.out.trans (show (Fa.same st ls && Fa.descTo ls st st.length) = Fa.descTo ls st st.length from by simp [HS.out]))
 rw [he] at c3
 clear he
 go_wp2_with fail
 refine c3.mono ?_; rintro q_ w5 ⟨rfl, b5⟩
 have z5 := b5.size
 replace bx := bx.below b5 bx.lt
 replace ht := ht.below b5 (by omega)
 replace hs := hs.below b5 (by omega)
 replace b0 := b0.trans (b5.mono (by omega))
 clear b5 o4 o5 hh4 c3
 have hn := ht.n_eq.1
 have hc := ht.n_eq.2
 have hix : ∀ (j : Nat) (x : Int), st[j]? = some x → ∃ k : Nat, Sl.ix ls x = k ∧ k < ls.length := fun j x hx => Sl.active_ix HG.out (((Fa.same_iff.1 HS.out).2 x).1 (List.mem_of_getElem? hx))
 have zq : hi ≤ w5.heap.size := by omega
 have zq3 : hi3 ≤ w5.heap.size := by omega
 clear hh hh0 hh2 z0 z1 z2 z3 z4 z5 HG HS
 go_wp2_with fail
 go_loopw [4] (fun i wr => ∃ k : Nat, 1 ≤ k ∧ k ≤ nt + 1 ∧ i = .int .i64 k ∧ Below w5.heap.size w5 wr ∧ Hid (Fa.descTo ls st k = true)) (fun i _ => nt + 1 - (intOf i).toNat)
 case atStart => exact ⟨1, Nat.le_refl _, by omega, rfl, Below.refl _ _, Lib.hid rfl⟩
 case round =>
  obtain ⟨k, h1k, hk, rfl, hb, HD⟩ := hrel
  have bxr := bx.below hb bx.lt
  have x1 := bxr.c1
  have x2 := bxr.c2
  by_cases hlt : k < nt
  ·obtain ⟨j, rfl⟩ : ∃ j, k = j + 1 := ⟨k - 1, by omega⟩
   obtain ⟨b, off, x, rfl, hx, _, _, f0⟩ := Nm.get ht hlt hb zq3
   obtain ⟨_, _, y, e, hy, _, _, g0⟩ := Nm.get ht (k := j) (by omega) hb zq3
   injection e with e
   injection e with e1 e2
   subst e1; subst e2
   have hki : ((j + 1 : Nat) : Int) < (nt : Int) := by omega
   have hj : (j : Int) < (nt : Int) := by omega
   have hsr := hs.below hb zq
   have zr := Nat.le_trans zq hb.size
   have cP := fun p i (H : Hid (∃ k : Nat, Sl.ix ls i = k ∧ k < ls.length)) => priorityIn_any _ ls i (ext wr p) (hsr.below (below_ext wr p) zr) (Nat.le_trans zr (below_ext wr p).size) H.out.choose_spec.1 H.out.choose_spec.2
   have HX := Lib.hid (hix _ _ hx.out)
   have HY := Lib.hid (hix _ _ hy.out)
   have hda : Fa.descAt ls st (j + 1) = decide (Sl.lvl ls x < Sl.lvl ls y) := by simp [Fa.descAt, List.getD_eq_getElem?_getD, hx.out, hy.out]
   have hbw := Nat.le_trans bx.lt hb.size
   clear hx hy
   have e0 := cell_ext f0; have e1 := cell_ext g0; have e2 := cell_ext x1; have e3 := cell_ext x2
   generalize Sl.lvl ls = L at cP hda
   by_cases hq : L x < L y
   ·have HD2 := Lib.hid (show Fa.descTo ls st (j + 1 + 1) = true from by rw [Fa.descTo, HD.out, hda]; simpa using hq)
    have hd : decide (L y ≤ L x) = false := decide_eq_false (by omega)
    clear HD hda hq
    go_wp2_with fail
    refine wp_region_ext_all (by kernel_rfl) (by kernel_rfl) ?_
    repeat (go_big_quiet_step ((go_at_call 44; exact calls_ext (cP _ _ (by assumption)))))
    refine wpQuiet_nil ?_
    intro w6 b6
    clear e0 e1 e2 e3
    replace hb := hb.trans (b6.mono hb.size)
    go_wp2_with fail
    go_roundw
    case rel => exact ⟨j + 1 + 1, by omega, by omega, by go_num, hb, HD2⟩
    case measure => simp [intOf]; omega
   ·have HF := Lib.hid (HA.out.trans (show Fa.descTo ls st st.length = false from by
     rw [← Bool.not_eq_true]
     intro h
     have := Fa.descTo_iff.1 h (j + 1) (by omega)
     rw [hda] at this
     exact hq (by simpa using this)))
    have hd : decide (L y ≤ L x) = true := decide_eq_true (by omega)
    clear HD hda hq HA
    go_wp2_with fail
    refine wp_region_ext_all (by kernel_rfl) (by kernel_rfl) ?_
    repeat (go_big_quiet_step ((go_at_call 44; exact calls_ext (cP _ _ (by assumption)))))
    refine wpQuiet_nil ?_
    intro w6 b6
    clear e0 e1 e2 e3
    replace hb := hb.trans (b6.mono hb.size)
    go_wp2_with fail
    go_ret
    exact ⟨ret_bool HF.out.symm, b0.trans (hb.mono b0.size)⟩
  ·have HF := Lib.hid (HA.out.trans (Fa.desc_mono (by omega) HD.out))
   clear HA HD
   go_wp2_with fail
   go_ret
   exact ⟨ret_bool HF.out.symm, b0.trans (hb.mono b0.size)⟩

end Go.Proofs.YtndfmkbpdoohfaaGreat

/- Whether a processor interface is valid, in the reference; the exported functions. No condition but room. -/
namespace Go.Proofs.YtndfmkbpdoohfaaGreat
open Go.RowKit Go.ChangeShapes Go.WideShapes Go.Deep

/-- the value v holds a row in which x lies, or not -/
def Fa.HasB (w : World) (v : Value) (x : Int) (b : Bool) : Prop := ∃ (l : List Int) (lo hi : Nat), Rd Nm.cells 1 w lo hi v l ∧ hi ≤ w.heap.size ∧ l.contains x = b
theorem Fa.okAt_no1 {ls : List Sl} {st : List Int} {i : Nat} {x : Int} (h : (Sl.active ls).contains x = false) : Fa.okAt ls st i x = false := by unfold Fa.okAt; rw [h]; rfl
theorem Fa.okAt_no2 {ls : List Sl} {st : List Int} {i : Nat} {x : Int} (h : (st.take i).contains x = true) : Fa.okAt ls st i x = false := by unfold Fa.okAt; rw [h]; simp
theorem Fa.okAt_at {ls : List Sl} {st : List Int} {i : Nat} {x : Int} (h : (Sl.active ls).contains x = true) (h2 : (st.take i).contains x = false) : Fa.okAt ls st i x = Fa.descAt ls st i := by unfold Fa.okAt; rw [h, h2]; simp
theorem Fa.okAt_has {ls : List Sl} {st : List Int} {i : Nat} {x : Int} (h : Fa.okAt ls st i x = true) : x ∈ Sl.active ls := by
 simp only [Fa.okAt, Bool.and_eq_true, List.contains_eq_mem, decide_eq_true_eq] at h; exact h.1.1
theorem Fa.okTo_no {ls : List Sl} {st : List Int} {i : Nat} {x : Int} (hx : st[i]? = some x) (h : Fa.okAt ls st i x = false) : Fa.okTo ls st st.length = false := by
 rw [← Bool.not_eq_true]
 intro e
 rw [Fa.okTo_iff.1 e i x (List.getElem?_eq_some_iff.1 hx).1 hx] at h
 simp at h

set_option maxHeartbeats 4000000 in
theorem l10Good_any (m : Int) (vt vs vw : Value) (st : List Int) (ls : List Sl) (lw : List Wt) (w : World) {lo hi lo2 hi2 lo3 hi3 : Nat} (h0 : Rd Nm.cells 1 w lo3 hi3 vt st) (h : Rd Sl.cells 3 w lo hi vs ls) (h2 : Rd Wt.cells 2 w lo2 hi2 vw lw) (hh0 : hi3 ≤ w.heap.size) (hh : hi ≤ w.heap.size) (hh2 : hi2 ≤ w.heap.size) :
  Calls Tryz.prog 35 #[.agg #[.int .i64 m, vt, vs, vw]] w fun e w' => e = .returned (.bool (Fa.good m st ls lw)) ∧ Below w.heap.size w w' := by
 have b0 := (Below.refl w.heap.size w).alloc (Nat.le_refl _) (.cells #[.int .i64 m, vt, vs, vw] 30)
 have z0 : (w.alloc (.cells #[.int .i64 m, vt, vs, vw] 30)).heap.size = w.heap.size + 1 := by simp
 have bx := Box.new w #[.int .i64 m, vt, vs, vw] 30 rfl
 have ht := h0.below b0 hh0
 have hs := h.below b0 hh
 have hw := h2.below b0 hh2
 have hv0 := h0.form
 have hv := h.form
 have hv2 := h2.form
 clear h0 h h2
 generalize hwA : w.alloc (.cells #[.int .i64 m, vt, vs, vw] 30) = wA at *
 obtain ⟨At, nt, dt, rfl, Ht, hdt, hmt⟩ := hv0
 obtain ⟨A0, n0, d0, rfl, H0, hd0, hm0⟩ := hv
 obtain ⟨A1, n1, d1, rfl, H1, hd1, hm1⟩ := hv2
 have c1 := fun W => l1In_any m 0 16 W
 have c2 := l9Good_any _ _ ls lw wA hs hw (by omega) (by omega)
 have x0 := bx.c0
 have x1 := bx.c1
 have x2 := bx.c2
 have x3 := bx.c3
 cases hm : inB m 0 16
 ·have HF := Lib.hid (Fa.good_no1 (st := st) (ls := ls) (lw := lw) hm)
  rw [hm] at c1
  clear hm
  go_enter Tryz.func35, Tryz.ntmps35
  go_wp2_with fail
  refine (c1 _).mono ?_; rintro q_ w_ ⟨rfl, rfl⟩
  go_wp2_with fail
  go_ret
  exact ⟨ret_bool HF.out.symm, b0⟩
 rw [hm] at c1
 cases hq : Qu.good ls lw
 ·have HF := Lib.hid (Fa.good_no2 (m := m) (st := st) hq)
  rw [hq] at c2
  clear hm hq
  go_enter Tryz.func35, Tryz.ntmps35
  go_wp2_with fail
  refine (c1 _).mono ?_; rintro q_ w_ ⟨rfl, rfl⟩
  go_wp2_with fail
  refine c2.mono ?_; rintro q_ w1 ⟨rfl, b1⟩
  go_wp2_with fail
  go_ret
  exact ⟨ret_bool HF.out.symm, b0.trans (b1.mono (by omega))⟩
 rw [hq] at c2
 have HG := Lib.hid (Qu.parts_get (Qu.good_parts hq).1).1
 have HA := Lib.hid ((Fa.good_at (st := st) hm hq).trans (Fa.ok_eq st ls).symm)
 clear hm hq
 go_enter Tryz.func35, Tryz.ntmps35
 go_wp2_with fail
 clear hwA
 refine (c1 _).mono ?_; rintro q_ w_ ⟨rfl, rfl⟩
 go_wp2_with fail
 refine c2.mono ?_; rintro q_ w1 ⟨rfl, b1⟩
 replace bx := bx.below b1 bx.lt
 have z1 := b1.size
 replace ht := ht.below b1 (by omega)
 replace hs := hs.below b1 (by omega)
 replace b0 := b0.trans (b1.mono (by omega))
 clear b1 x0 x1 x2 x3 hw c1 c2
 have x1 := bx.c1
 have x2 := bx.c2
 have x3 := bx.c3
 go_wp2_with fail
 refine (l8Active_any _ ls w1 hs (by omega) HG.out).mono ?_; rintro q_ w4 ⟨v5, rfl, o5, b4⟩
 have z4 := b4.size
 replace bx := bx.below b4 bx.lt
 replace ht := ht.below b4 (by omega)
 replace hs := hs.below b4 (by omega)
 replace b0 := b0.trans (b4.mono (by omega))
 obtain ⟨A5, n5, d5, rfl, _, _, _⟩ := o5.form
 clear b4 x1 x2 x3
 have hn := Nat.le_of_eq ht.n_eq.1
 have hn' := Nat.le_of_eq ht.n_eq.1.symm
 have hc := ht.n_eq.2
 have hn5 := Nat.le_of_eq o5.n_eq.1
 have hn5' := Nat.le_of_eq o5.n_eq.1.symm
 have zq : hi ≤ w4.heap.size := by omega
 have zq3 : hi3 ≤ w4.heap.size := by omega
 clear hh hh0 hh2 z0 z1 z4
 go_wp2_with fail
 go_loopw [4] (fun i wr => ∃ k : Nat, k ≤ nt ∧ i = .int .i64 k ∧ Below w4.heap.size w4 wr ∧ Hid (Fa.okTo ls st k = true)) (fun i _ => nt - (intOf i).toNat)
 case atStart => exact ⟨0, Nat.zero_le _, rfl, Below.refl _ _, Lib.hid rfl⟩
 case round =>
  obtain ⟨k, hk, rfl, hb, HD⟩ := hrel
  have bxr := bx.below hb bx.lt
  have x1 := bxr.c1
  have x2 := bxr.c2
  have x3 := bxr.c3
  by_cases hlt : k < nt
  ·obtain ⟨b, off, x, rfl, hx, _, hbh, f0⟩ := Nm.get ht hlt hb zq3
   have hki : (k : Int) < (nt : Int) := by omega
   have hkn : k ≤ nt := by omega
   have hkc : k ≤ dt := by omega
   have htr := ht.below hb zq3
   have hsr := hs.below hb zq
   have zr := Nat.le_trans zq hb.size
   have zr3 := Nat.le_trans zq3 hb.size
   have hac : ∀ p, Fa.HasB (ext wr p) (.slice A5 n5 d5) x ((Sl.active ls).contains x) := fun p => ⟨_, _, _, (o5.below hb (Nat.le_refl _)).below (below_ext wr p) hb.size, Nat.le_trans hb.size (below_ext wr p).size, rfl⟩
   have htc : ∀ p, Fa.HasB (ext wr p) (.slice (some ⟨b, off, none⟩) k dt) x ((st.take k).contains x) := fun p => ⟨_, _, _, (htr.take_ hkn).below (below_ext wr p) zr3, Nat.le_trans zr3 (below_ext wr p).size, rfl⟩
   have cH := fun p v x b (H : ∀ p, Fa.HasB (ext wr p) v x b) => (l1Has_any v _ x (ext wr p) (H p).choose_spec.choose_spec.choose_spec.1 (H p).choose_spec.choose_spec.choose_spec.2.1).mono (R' := fun e w' => e = .returned (.bool b) ∧ ext wr p = w') (fun e w' h => ⟨h.1.trans (ret_bool (H p).choose_spec.choose_spec.choose_spec.2.2), h.2⟩)
   have e0 := cell_ext f0; have e1 := cell_ext x1; have e2 := cell_ext x2; have e3 := cell_ext x3
   cases h1 : (Sl.active ls).contains x
   ·have HF := Lib.hid (HA.out.trans (show _ = false from by rw [Fa.okTo_no hx.out (Fa.okAt_no1 h1)]; rfl))
    rw [h1] at hac
    clear h1 hx htc
    go_wp2_with fail
    refine wp_region_ext_all (by kernel_rfl) (by kernel_rfl) ?_
    repeat (go_big_quiet_step ((go_at_call 73; exact calls_ext0 (cH _ _ _ _ (by assumption)))))
    refine wpQuiet_nil ?_
    intro w6 b6
    clear e0 e1 e2 e3
    replace hb := hb.trans (b6.mono hb.size)
    go_wp2_with fail
    go_ret
    exact ⟨ret_bool HF.out.symm, b0.trans (hb.mono b0.size)⟩
   rw [h1] at hac
   cases h2 : (st.take k).contains x
   rotate_left
   ·have HF := Lib.hid (HA.out.trans (show _ = false from by rw [Fa.okTo_no hx.out (Fa.okAt_no2 h2)]; rfl))
    rw [h2] at htc
    clear h1 h2 hx
    go_wp2_with fail
    refine wp_region_ext_all (by kernel_rfl) (by kernel_rfl) ?_
    repeat (go_big_quiet_step ((go_at_call 73; exact calls_ext0 (cH _ _ _ _ (by assumption)))))
    refine wpQuiet_nil ?_
    intro w6 b6
    clear e0 e1 e2 e3
    replace hb := hb.trans (b6.mono hb.size)
    go_wp2_with fail
    go_ret
    exact ⟨ret_bool HF.out.symm, b0.trans (hb.mono b0.size)⟩
   rw [h2] at htc
   have hat := Fa.okAt_at h1 h2
   have hxa : x ∈ Sl.active ls := by simpa using h1
   have HX := Lib.hid (Sl.active_ix HG.out hxa)
   clear h1 h2 hxa
   rcases Nat.eq_zero_or_pos k with hk0 | hk0
   ·obtain rfl : k = 0 := by omega
    simp only [Nat.add_zero] at e0
    have HD2 := Lib.hid (show Fa.okTo ls st (0 + 1) = true from by rw [Fa.okTo_succ hx.out, HD.out, hat]; rfl)
    clear HD hat hx hk0
    go_wp2_with fail
    refine wp_region_ext_all (by kernel_rfl) (by kernel_rfl) ?_
    repeat (go_big_quiet_step ((go_at_call 73; exact calls_ext0 (cH _ _ _ _ (by assumption)))))
    refine wpQuiet_nil ?_
    intro w6 b6
    clear e0 e1 e2 e3 f0 x1 x2 x3
    replace hb := hb.trans (b6.mono hb.size)
    clear b6
    go_wp2_with fail
    refine wp_region_ext_all (by kernel_rfl) (by kernel_rfl) ?_
    repeat (go_big_quiet_step (fail))
    refine wpQuiet_nil ?_
    intro w7 b7
    replace hb := hb.trans (b7.mono hb.size)
    go_wp2_with fail
    go_roundw
    case rel => exact ⟨0 + 1, by omega, by go_num, hb, HD2⟩
    case measure => simp [intOf]; omega
   obtain ⟨j, rfl⟩ : ∃ j, k = j + 1 := ⟨k - 1, by omega⟩
   obtain ⟨_, _, y, e, hy, _, _, g0⟩ := Nm.get ht (k := j) (by omega) hb zq3
   injection e with e
   injection e with e1 e2
   subst e1; subst e2
   have hd : decide ((0 : Int) < ((j + 1 : Nat) : Int)) = true := decide_eq_true (by omega)
   have hj : (j : Int) < (nt : Int) := by omega
   have HY := Lib.hid (Sl.active_ix HG.out (Fa.okAt_has (Fa.okTo_iff.1 HD.out j y (by omega) hy.out)))
   have hda : Fa.descAt ls st (j + 1) = decide (Sl.lvl ls x < Sl.lvl ls y) := by simp [Fa.descAt, List.getD_eq_getElem?_getD, hx.out, hy.out]
   rw [hda] at hat
   have HT := Lib.hid (show Fa.okTo ls st (j + 1 + 1) = Fa.okAt ls st (j + 1) x from by rw [Fa.okTo_succ hx.out, HD.out]; rfl)
   have HTN := Lib.hid (fun h => Fa.okTo_no (ls := ls) hx.out h)
   have LV := Lib.hid (show ∃ L, L = Sl.lvl ls from ⟨_, rfl⟩)
   obtain ⟨L, hL⟩ := LV.out
   clear LV
   rw [← hL] at hat
   have HL := Lib.hid hL
   clear hL hx hy hda HD
   by_cases hq : L x < L y
   ·have HD2 := Lib.hid (show Fa.okTo ls st (j + 1 + 1) = true from by rw [HT.out, hat]; simpa using hq)
    have hd2 : decide (L y ≤ L x) = false := decide_eq_false (by omega)
    clear HT HTN hat hq
    go_wp2_with fail
    refine wp_region_ext_all (by kernel_rfl) (by kernel_rfl) ?_
    repeat (go_big_quiet_step ((go_at_call 73; exact calls_ext0 (cH _ _ _ _ (by assumption)))))
    refine wpQuiet_nil ?_
    intro w6 b6
    clear e0 e1 e2 e3 cH
    have f0' := ((bcell b6).1 _ _ (by omega)).trans f0
    have g0' := ((bcell b6).1 _ _ (by omega)).trans g0
    have y1 := ((bcell b6).1 _ _ bxr.lt).trans x1
    have y2 := ((bcell b6).1 _ _ bxr.lt).trans x2
    have y3 := ((bcell b6).1 _ _ bxr.lt).trans x3
    replace hsr := hsr.below b6 zr
    replace zr := Nat.le_trans zr b6.size
    replace hb := hb.trans (b6.mono hb.size)
    clear f0 g0 x1 x2 x3 b6 htr
    have cL := fun p i (H : Hid (∃ k : Nat, Sl.ix ls i = k ∧ k < ls.length)) => (l10Level_any _ (.slice A1 n1 d1) ls i (ext w6 p) (hsr.below (below_ext w6 p) zr) (Nat.le_trans zr (below_ext w6 p).size) H.out.choose_spec.1 H.out.choose_spec.2).mono (R' := fun e w' => e = .returned (.int .i64 (L i)) ∧ Below (ext w6 p).heap.size (ext w6 p) w') (fun e w' h => ⟨h.1.trans (ret_int (congrFun HL.out i).symm), h.2⟩)
    have e0 := cell_ext f0'; have e1 := cell_ext g0'; have e2 := cell_ext y1; have e3 := cell_ext y2; have e4 := cell_ext y3
    go_wp2_with fail
    refine wp_region_ext_all (by kernel_rfl) (by kernel_rfl) ?_
    repeat (go_big_quiet_step ((go_at_call 74; exact calls_ext (cL _ _ (by assumption)))))
    refine wpQuiet_nil ?_
    intro w7 b7
    clear e0 e1 e2 e3 e4
    replace hb := hb.trans (b7.mono hb.size)
    go_wp2_with fail
    go_roundw
    case rel => exact ⟨j + 1 + 1, by omega, by go_num, hb, HD2⟩
    case measure => simp [intOf]; omega
   ·have HF := Lib.hid (HA.out.trans (show _ = false from by rw [HTN.out (by rw [hat]; simpa using hq)]; rfl))
    have hd2 : decide (L y ≤ L x) = true := decide_eq_true (by omega)
    clear HT HTN hat hq
    go_wp2_with fail
    refine wp_region_ext_all (by kernel_rfl) (by kernel_rfl) ?_
    repeat (go_big_quiet_step ((go_at_call 73; exact calls_ext0 (cH _ _ _ _ (by assumption)))))
    refine wpQuiet_nil ?_
    intro w6 b6
    clear e0 e1 e2 e3 cH
    have f0' := ((bcell b6).1 _ _ (by omega)).trans f0
    have g0' := ((bcell b6).1 _ _ (by omega)).trans g0
    have y1 := ((bcell b6).1 _ _ bxr.lt).trans x1
    have y2 := ((bcell b6).1 _ _ bxr.lt).trans x2
    have y3 := ((bcell b6).1 _ _ bxr.lt).trans x3
    replace hsr := hsr.below b6 zr
    replace zr := Nat.le_trans zr b6.size
    replace hb := hb.trans (b6.mono hb.size)
    clear f0 g0 x1 x2 x3 b6 htr
    have cL := fun p i (H : Hid (∃ k : Nat, Sl.ix ls i = k ∧ k < ls.length)) => (l10Level_any _ (.slice A1 n1 d1) ls i (ext w6 p) (hsr.below (below_ext w6 p) zr) (Nat.le_trans zr (below_ext w6 p).size) H.out.choose_spec.1 H.out.choose_spec.2).mono (R' := fun e w' => e = .returned (.int .i64 (L i)) ∧ Below (ext w6 p).heap.size (ext w6 p) w') (fun e w' h => ⟨h.1.trans (ret_int (congrFun HL.out i).symm), h.2⟩)
    have e0 := cell_ext f0'; have e1 := cell_ext g0'; have e2 := cell_ext y1; have e3 := cell_ext y2; have e4 := cell_ext y3
    go_wp2_with fail
    refine wp_region_ext_all (by kernel_rfl) (by kernel_rfl) ?_
    repeat (go_big_quiet_step ((go_at_call 74; exact calls_ext (cL _ _ (by assumption)))))
    refine wpQuiet_nil ?_
    intro w7 b7
    clear e0 e1 e2 e3 e4
    replace hb := hb.trans (b7.mono hb.size)
    go_wp2_with fail
    go_ret
    exact ⟨ret_bool HF.out.symm, b0.trans (hb.mono b0.size)⟩
  ·have HD2 := Lib.hid (show Fa.okTo ls st st.length = true from by have := HD.out; rwa [show k = st.length from by omega] at this)
   by_cases hnn : nt = n5
   ·have HF := Lib.hid (HA.out.trans (show _ = true from by rw [HD2.out, decide_eq_true (by omega)]; rfl))
    have hnd : ((nt : Int) == (n5 : Int)) = true := by rw [hnn]; simp
    clear HD HD2 HA hnn hn hn5 hn' hn5'
    go_wp2_with fail
    go_ret
    exact ⟨ret_bool HF.out.symm, b0.trans (hb.mono b0.size)⟩
   ·have HF := Lib.hid (HA.out.trans (show _ = false from by rw [HD2.out, decide_eq_false (by omega)]; rfl))
    have hnd : ((nt : Int) == (n5 : Int)) = false := by rw [beq_eq_false_iff_ne]; omega
    clear HD HD2 HA hnn hn hn5 hn' hn5'
    go_wp2_with fail
    go_ret
    exact ⟨ret_bool HF.out.symm, b0.trans (hb.mono b0.size)⟩

end Go.Proofs.YtndfmkbpdoohfaaGreat

/- The depth and the running priority of an interface, in the program and in the reference. Condition: at most 1048576 numbers on the stack. -/
namespace Go.Proofs.YtndfmkbpdoohfaaGreat
open Go.RowKit Go.ChangeShapes Go.WideShapes Go.Deep

def Fa.deR (m : Int) (st : List Int) (ls : List Sl) (lw : List Wt) : Int := if Fa.good m st ls lw = true then (st.length : Int) else 0
def Fa.rpR (m : Int) (st : List Int) (ls : List Sl) (lw : List Wt) : Int := if Fa.good m st ls lw = true then Fa.run st ls else 0
theorem Fa.slots {m : Int} {st : List Int} {ls : List Sl} {lw : List Wt} (h : Fa.good m st ls lw = true) : ∀ i ∈ st, ∃ k : Nat, Sl.ix ls i = k ∧ k < ls.length := fun i hi => by
 obtain ⟨_, hq, ho⟩ := Fa.good_iff.1 h
 obtain ⟨k, s, hs, _, _, hx, _⟩ := Fa.ok_slot (Qu.parts_get (Qu.good_parts hq).1).1 ho hi
 exact ⟨k, hx, (List.getElem?_eq_some_iff.1 hs).1⟩
theorem Fa.run_at {st : List Int} {ls : List Sl} {i : Int} {j : Nat} (hj : j + 1 = st.length) (h : st[j]? = some i) : Fa.run st ls = Sl.lvl ls i :=
 Fa.run_last (by rw [List.getLast?_eq_getElem?, ← hj]; exact h)
theorem Fa.run_zero {st : List Int} {ls : List Sl} (h : st.length = 0) : Fa.run st ls = 16 := by rw [List.eq_nil_of_length_eq_zero h]; rfl

set_option maxHeartbeats 2000000 in
theorem specRunning_in (m : Int) (vt vs vw : Value) (st : List Int) (ls : List Sl) (lw : List Wt) (w : World) {lo hi lo2 hi2 lo3 hi3 : Nat} (h0 : Rd Nm.cells 1 w lo3 hi3 vt st) (h : Rd Sl.cells 3 w lo hi vs ls) (h2 : Rd Wt.cells 2 w lo2 hi2 vw lw) (hh0 : hi3 ≤ w.heap.size) (hh : hi ≤ w.heap.size) (hh2 : hi2 ≤ w.heap.size) (hix : ∀ i ∈ st, ∃ k : Nat, Sl.ix ls i = k ∧ k < ls.length) :
  Calls Tryz.prog 69 #[.agg #[.int .i64 m, vt, vs, vw]] w fun e w' => e = .returned (.int .i64 (Fa.run st ls)) ∧ Below w.heap.size w w' := by
 have b0 : Below w.heap.size w (w.alloc (.cells #[.int .i64 m, vt, vs, vw] 30)) := (Below.refl w.heap.size w).alloc (Nat.le_refl _) _
 have z0 : (w.alloc (.cells #[.int .i64 m, vt, vs, vw] 30)).heap.size = w.heap.size + 1 := by simp
 have bx := Box.new w #[.int .i64 m, vt, vs, vw] 30 rfl
 have ht := h0.below b0 hh0
 have hs := h.below b0 hh
 have hw := h2.below b0 hh2
 have hv0_ := h0.form
 have hv_ := h.form
 have hv2_ := h2.form
 clear h0 h h2
 generalize hwA : w.alloc (.cells #[.int .i64 m, vt, vs, vw] 30) = wA at *
 obtain ⟨At, nt, dt, rfl, _, _, _⟩ := hv0_
 obtain ⟨A0, n0, d0, rfl, _, _, _⟩ := hv_
 obtain ⟨A1, n1, d1, rfl, _, _, _⟩ := hv2_
 have hn := Nat.le_of_eq ht.n_eq.1
 have hn' := Nat.le_of_eq ht.n_eq.1.symm
 have hc := ht.n_eq.2
 rcases Nat.eq_zero_or_pos nt with hz | hz
 ·have HF := Lib.hid (Fa.run_zero (st := st) (ls := ls) (by omega))
  obtain rfl : nt = 0 := hz
  clear hn hn'
  go_enter Tryz.func69, Tryz.ntmps69
  have bx_0 := bx.c0
  have bx_1 := bx.c1
  have bx_2 := bx.c2
  have bx_3 := bx.c3
  have bx_z := bx.frozen
  have bx_l := bx.lt
  go_wp2_with fail
  clear hwA
  clear bx_0 bx_1 bx_2 bx_3 bx_z bx_l
  go_ret
  exact ⟨ret_int HF.out.symm, b0⟩
 ·obtain ⟨j, hj⟩ : ∃ j, nt = j + 1 := ⟨nt - 1, by omega⟩
  have hj1 : j < nt := by omega
  obtain ⟨b, off, x, rfl, hx, _, hbh, f0⟩ := Nm.get ht hj1 (Below.refl wA.heap.size wA) (by omega)
  have HF := Lib.hid (Fa.run_at (ls := ls) (show j + 1 = st.length by omega) hx.out)
  obtain ⟨k, hk, hkl⟩ := hix x (List.mem_of_getElem? hx.out)
  have HK := Lib.hid (show ∃ k : Nat, Sl.ix ls x = k ∧ k < ls.length from ⟨k, hk, hkl⟩)
  have hje : (nt : Int) - 1 = (j : Int) := by omega
  have hjn : (j : Int) < (nt : Int) := by omega
  have hzd : decide ((0 : Int) < (nt : Int)) = true := decide_eq_true (by omega)
  have hzd2 : ((nt : Int) == 0) = false := by rw [beq_eq_false_iff_ne]; omega
  clear hk hkl hx hz hn hn' hj
  go_enter Tryz.func69, Tryz.ntmps69
  have bx_0 := bx.c0
  have bx_1 := bx.c1
  have bx_2 := bx.c2
  have bx_3 := bx.c3
  have bx_z := bx.frozen
  have bx_l := bx.lt
  go_wp2_with fail
  clear hwA
  have zr : hi ≤ wA.heap.size := by omega
  have c1 := fun p => l10Level_any _ (.slice A1 n1 d1) ls x (ext wA p) (hs.below (below_ext wA p) zr) (Nat.le_trans zr (below_ext wA p).size) HK.out.choose_spec.1 HK.out.choose_spec.2
  have e0 := cell_ext f0; have e1 := cell_ext bx_1; have e2 := cell_ext bx_2; have e3 := cell_ext bx_3
  refine wp_region_ext_all (by kernel_rfl) (by kernel_rfl) ?_
  repeat (go_big_quiet_step ((go_at_call 74; exact calls_ext (c1 _))))
  refine wpQuiet_nil ?_
  intro w6 b6
  clear e0 e1 e2 e3
  replace b0 := b0.trans (b6.mono (by omega))
  go_wp2_with fail
  go_ret
  exact ⟨ret_int HF.out.symm, b0⟩
set_option maxHeartbeats 2000000 in
theorem implRunning_in (m : Int) (vt vs vw : Value) (st : List Int) (ls : List Sl) (lw : List Wt) (w : World) {lo hi lo2 hi2 lo3 hi3 : Nat} (h0 : Rd Nm.cells 1 w lo3 hi3 vt st) (h : Rd Sl.cells 3 w lo hi vs ls) (h2 : Rd Wt.cells 2 w lo2 hi2 vw lw) (hh0 : hi3 ≤ w.heap.size) (hh : hi ≤ w.heap.size) (hh2 : hi2 ≤ w.heap.size) (hix : ∀ i ∈ st, ∃ k : Nat, Sl.ix ls i = k ∧ k < ls.length) :
  Calls Tryz.prog 45 #[.agg #[.int .i64 m, vt, vs, vw]] w fun e w' => e = .returned (.int .i64 (Fa.run st ls)) ∧ Below w.heap.size w w' := by
 have b0 : Below w.heap.size w (w.alloc (.cells #[.int .i64 m, vt, vs, vw] 30)) := (Below.refl w.heap.size w).alloc (Nat.le_refl _) _
 have z0 : (w.alloc (.cells #[.int .i64 m, vt, vs, vw] 30)).heap.size = w.heap.size + 1 := by simp
 have bx := Box.new w #[.int .i64 m, vt, vs, vw] 30 rfl
 have ht := h0.below b0 hh0
 have hs := h.below b0 hh
 have hw := h2.below b0 hh2
 have hv0_ := h0.form
 have hv_ := h.form
 have hv2_ := h2.form
 clear h0 h h2
 generalize hwA : w.alloc (.cells #[.int .i64 m, vt, vs, vw] 30) = wA at *
 obtain ⟨At, nt, dt, rfl, _, _, _⟩ := hv0_
 obtain ⟨A0, n0, d0, rfl, _, _, _⟩ := hv_
 obtain ⟨A1, n1, d1, rfl, _, _, _⟩ := hv2_
 have hn := Nat.le_of_eq ht.n_eq.1
 have hn' := Nat.le_of_eq ht.n_eq.1.symm
 have hc := ht.n_eq.2
 rcases Nat.eq_zero_or_pos nt with hz | hz
 ·have HF := Lib.hid (Fa.run_zero (st := st) (ls := ls) (by omega))
  obtain rfl : nt = 0 := hz
  clear hn hn'
  go_enter Tryz.func45, Tryz.ntmps45
  have bx_0 := bx.c0
  have bx_1 := bx.c1
  have bx_2 := bx.c2
  have bx_3 := bx.c3
  have bx_z := bx.frozen
  have bx_l := bx.lt
  go_wp2_with fail
  clear hwA
  clear bx_0 bx_1 bx_2 bx_3 bx_z bx_l
  go_ret
  exact ⟨ret_int HF.out.symm, b0⟩
 ·obtain ⟨j, hj⟩ : ∃ j, nt = j + 1 := ⟨nt - 1, by omega⟩
  have hj1 : j < nt := by omega
  obtain ⟨b, off, x, rfl, hx, _, hbh, f0⟩ := Nm.get ht hj1 (Below.refl wA.heap.size wA) (by omega)
  have HF := Lib.hid (Fa.run_at (ls := ls) (show j + 1 = st.length by omega) hx.out)
  obtain ⟨k, hk, hkl⟩ := hix x (List.mem_of_getElem? hx.out)
  have HK := Lib.hid (show ∃ k : Nat, Sl.ix ls x = k ∧ k < ls.length from ⟨k, hk, hkl⟩)
  have hje : (nt : Int) - 1 = (j : Int) := by omega
  have hjn : (j : Int) < (nt : Int) := by omega
  have hzd : decide ((0 : Int) < (nt : Int)) = true := decide_eq_true (by omega)
  have hzd2 : ((nt : Int) == 0) = false := by rw [beq_eq_false_iff_ne]; omega
  clear hk hkl hx hz hn hn' hj
  go_enter Tryz.func45, Tryz.ntmps45
  have bx_0 := bx.c0
  have bx_1 := bx.c1
  have bx_2 := bx.c2
  have bx_3 := bx.c3
  have bx_z := bx.frozen
  have bx_l := bx.lt
  go_wp2_with fail
  clear hwA
  have zr : hi ≤ wA.heap.size := by omega
  have c1 := fun p => priorityIn_any _ ls x (ext wA p) (hs.below (below_ext wA p) zr) (Nat.le_trans zr (below_ext wA p).size) HK.out.choose_spec.1 HK.out.choose_spec.2
  have e0 := cell_ext f0; have e1 := cell_ext bx_1; have e2 := cell_ext bx_2; have e3 := cell_ext bx_3
  refine wp_region_ext_all (by kernel_rfl) (by kernel_rfl) ?_
  repeat (go_big_quiet_step ((go_at_call 44; exact calls_ext (c1 _))))
  refine wpQuiet_nil ?_
  intro w6 b6
  clear e0 e1 e2 e3
  replace b0 := b0.trans (b6.mono (by omega))
  go_wp2_with fail
  go_ret
  exact ⟨ret_int HF.out.symm, b0⟩
set_option maxHeartbeats 2000000 in
theorem specDepthOf_any (m : Int) (vt vs vw : Value) (st : List Int) (ls : List Sl) (lw : List Wt) (w : World) {lo hi lo2 hi2 lo3 hi3 : Nat} (h0 : Rd Nm.cells 1 w lo3 hi3 vt st) (h : Rd Sl.cells 3 w lo hi vs ls) (h2 : Rd Wt.cells 2 w lo2 hi2 vw lw) (hh0 : hi3 ≤ w.heap.size) (hh : hi ≤ w.heap.size) (hh2 : hi2 ≤ w.heap.size) (hl : st.length ≤ 1048576) :
  Calls Tryz.prog 32 #[.agg #[.int .i64 m, vt, vs, vw]] w fun e w' => e = .returned (.tuple #[.int .i64 (Fa.deR m st ls lw), .bool (Fa.good m st ls lw)]) ∧ Below w.heap.size w w' := by
 have b0 : Below w.heap.size w (w.alloc (.cells #[.int .i64 m, vt, vs, vw] 30)) := (Below.refl w.heap.size w).alloc (Nat.le_refl _) _
 have z0 : (w.alloc (.cells #[.int .i64 m, vt, vs, vw] 30)).heap.size = w.heap.size + 1 := by simp
 have bx := Box.new w #[.int .i64 m, vt, vs, vw] 30 rfl
 have ht := h0.below b0 hh0
 have hs := h.below b0 hh
 have hw := h2.below b0 hh2
 have hv0_ := h0.form
 have hv_ := h.form
 have hv2_ := h2.form
 clear h0 h h2
 generalize hwA : w.alloc (.cells #[.int .i64 m, vt, vs, vw] 30) = wA at *
 obtain ⟨At, nt, dt, rfl, _, _, _⟩ := hv0_
 obtain ⟨A0, n0, d0, rfl, _, _, _⟩ := hv_
 obtain ⟨A1, n1, d1, rfl, _, _, _⟩ := hv2_
 have c1 := l10Good_any m _ _ _ st ls lw wA ht hs hw (by omega) (by omega) (by omega)
 have HN := Lib.hid ht.n_eq.1
 cases hg : Fa.good m st ls lw
 ·have HF := Lib.hid (show Fa.deR m st ls lw = 0 from by rw [Fa.deR, if_neg (by rw [hg]; decide)])
  rw [hg] at c1
  clear hg
  go_enter Tryz.func32, Tryz.ntmps32
  have bx_0 := bx.c0
  have bx_1 := bx.c1
  have bx_2 := bx.c2
  have bx_3 := bx.c3
  have bx_z := bx.frozen
  have bx_l := bx.lt
  go_wp2_with fail
  clear hwA
  clear bx_0 bx_1 bx_2 bx_3 bx_z bx_l
  refine (c1).mono ?_; rintro q_ w1 ⟨rfl, b_1⟩
  replace bx := bx.below b_1 bx.lt
  replace ht := ht.below b_1 (by omega)
  replace hs := hs.below b_1 (by omega)
  replace hw := hw.below b_1 (by omega)
  have z_2 := b_1.size
  replace b0 := b0.trans (b_1.mono (by omega))
  clear b_1
  have bx_0 := bx.c0
  have bx_1 := bx.c1
  have bx_2 := bx.c2
  have bx_3 := bx.c3
  have bx_z := bx.frozen
  have bx_l := bx.lt
  go_wp2_with fail
  clear bx_0 bx_1 bx_2 bx_3 bx_z bx_l
  go_ret2
  exact ⟨by rw [HF.out]; rfl, b0⟩
 ·have HF := Lib.hid (show Fa.deR m st ls lw = st.length from by rw [Fa.deR, if_pos hg])
  have HX := Lib.hid (Fa.slots hg)
  rw [hg] at c1
  clear hg
  go_enter Tryz.func32, Tryz.ntmps32
  have bx_0 := bx.c0
  have bx_1 := bx.c1
  have bx_2 := bx.c2
  have bx_3 := bx.c3
  have bx_z := bx.frozen
  have bx_l := bx.lt
  go_wp2_with fail
  clear hwA
  clear bx_0 bx_1 bx_2 bx_3 bx_z bx_l
  refine (c1).mono ?_; rintro q_ w1 ⟨rfl, b_1⟩
  replace bx := bx.below b_1 bx.lt
  replace ht := ht.below b_1 (by omega)
  replace hs := hs.below b_1 (by omega)
  replace hw := hw.below b_1 (by omega)
  have z_2 := b_1.size
  replace b0 := b0.trans (b_1.mono (by omega))
  clear b_1
  have bx_0 := bx.c0
  have bx_1 := bx.c1
  have bx_2 := bx.c2
  have bx_3 := bx.c3
  have bx_z := bx.frozen
  have bx_l := bx.lt
  go_wp2_with fail
  clear bx_0 bx_1 bx_2 bx_3 bx_z bx_l
  go_ret2
  exact ⟨by rw [HF.out, HN.out]; rfl, b0⟩
set_option maxHeartbeats 2000000 in
theorem specRunningPriority_any (m : Int) (vt vs vw : Value) (st : List Int) (ls : List Sl) (lw : List Wt) (w : World) {lo hi lo2 hi2 lo3 hi3 : Nat} (h0 : Rd Nm.cells 1 w lo3 hi3 vt st) (h : Rd Sl.cells 3 w lo hi vs ls) (h2 : Rd Wt.cells 2 w lo2 hi2 vw lw) (hh0 : hi3 ≤ w.heap.size) (hh : hi ≤ w.heap.size) (hh2 : hi2 ≤ w.heap.size) (hl : st.length ≤ 1048576) :
  Calls Tryz.prog 30 #[.agg #[.int .i64 m, vt, vs, vw]] w fun e w' => e = .returned (.tuple #[.int .i64 (Fa.rpR m st ls lw), .bool (Fa.good m st ls lw)]) ∧ Below w.heap.size w w' := by
 have b0 : Below w.heap.size w (w.alloc (.cells #[.int .i64 m, vt, vs, vw] 30)) := (Below.refl w.heap.size w).alloc (Nat.le_refl _) _
 have z0 : (w.alloc (.cells #[.int .i64 m, vt, vs, vw] 30)).heap.size = w.heap.size + 1 := by simp
 have bx := Box.new w #[.int .i64 m, vt, vs, vw] 30 rfl
 have ht := h0.below b0 hh0
 have hs := h.below b0 hh
 have hw := h2.below b0 hh2
 have hv0_ := h0.form
 have hv_ := h.form
 have hv2_ := h2.form
 clear h0 h h2
 generalize hwA : w.alloc (.cells #[.int .i64 m, vt, vs, vw] 30) = wA at *
 obtain ⟨At, nt, dt, rfl, _, _, _⟩ := hv0_
 obtain ⟨A0, n0, d0, rfl, _, _, _⟩ := hv_
 obtain ⟨A1, n1, d1, rfl, _, _, _⟩ := hv2_
 have c1 := l10Good_any m _ _ _ st ls lw wA ht hs hw (by omega) (by omega) (by omega)
 have HN := Lib.hid ht.n_eq.1
 cases hg : Fa.good m st ls lw
 ·have HF := Lib.hid (show Fa.rpR m st ls lw = 0 from by rw [Fa.rpR, if_neg (by rw [hg]; decide)])
  rw [hg] at c1
  clear hg
  go_enter Tryz.func30, Tryz.ntmps30
  have bx_0 := bx.c0
  have bx_1 := bx.c1
  have bx_2 := bx.c2
  have bx_3 := bx.c3
  have bx_z := bx.frozen
  have bx_l := bx.lt
  go_wp2_with fail
  clear hwA
  clear bx_0 bx_1 bx_2 bx_3 bx_z bx_l
  refine (c1).mono ?_; rintro q_ w1 ⟨rfl, b_1⟩
  replace bx := bx.below b_1 bx.lt
  replace ht := ht.below b_1 (by omega)
  replace hs := hs.below b_1 (by omega)
  replace hw := hw.below b_1 (by omega)
  have z_2 := b_1.size
  replace b0 := b0.trans (b_1.mono (by omega))
  clear b_1
  have bx_0 := bx.c0
  have bx_1 := bx.c1
  have bx_2 := bx.c2
  have bx_3 := bx.c3
  have bx_z := bx.frozen
  have bx_l := bx.lt
  go_wp2_with fail
  clear bx_0 bx_1 bx_2 bx_3 bx_z bx_l
  go_ret2
  exact ⟨by rw [HF.out]; rfl, b0⟩
 ·have HF := Lib.hid (show Fa.rpR m st ls lw = Fa.run st ls from by rw [Fa.rpR, if_pos hg])
  have HX := Lib.hid (Fa.slots hg)
  rw [hg] at c1
  clear hg
  go_enter Tryz.func30, Tryz.ntmps30
  have bx_0 := bx.c0
  have bx_1 := bx.c1
  have bx_2 := bx.c2
  have bx_3 := bx.c3
  have bx_z := bx.frozen
  have bx_l := bx.lt
  go_wp2_with fail
  clear hwA
  clear bx_0 bx_1 bx_2 bx_3 bx_z bx_l
  refine (c1).mono ?_; rintro q_ w1 ⟨rfl, b_1⟩
  replace bx := bx.below b_1 bx.lt
  replace ht := ht.below b_1 (by omega)
  replace hs := hs.below b_1 (by omega)
  replace hw := hw.below b_1 (by omega)
  have z_2 := b_1.size
  replace b0 := b0.trans (b_1.mono (by omega))
  clear b_1
  have bx_0 := bx.c0
  have bx_1 := bx.c1
  have bx_2 := bx.c2
  have bx_3 := bx.c3
  have bx_z := bx.frozen
  have bx_l := bx.lt
  go_wp2_with fail
  clear bx_0 bx_1 bx_2 bx_3 bx_z bx_l
  refine (specRunning_in m _ _ _ st ls lw w1 ht hs hw (by omega) (by omega) (by omega) HX.out).mono ?_; rintro q_ w3 ⟨rfl, b_3⟩
  replace bx := bx.below b_3 bx.lt
  replace ht := ht.below b_3 (by omega)
  replace hs := hs.below b_3 (by omega)
  replace hw := hw.below b_3 (by omega)
  have z_4 := b_3.size
  replace b0 := b0.trans (b_3.mono (by omega))
  clear b_3
  have bx_0 := bx.c0
  have bx_1 := bx.c1
  have bx_2 := bx.c2
  have bx_3 := bx.c3
  have bx_z := bx.frozen
  have bx_l := bx.lt
  go_wp2_with fail
  clear bx_0 bx_1 bx_2 bx_3 bx_z bx_l
  go_ret2
  exact ⟨by rw [HF.out]; rfl, b0⟩
set_option maxHeartbeats 2000000 in
theorem implDepthOf_any (m : Int) (vt vs vw : Value) (st : List Int) (ls : List Sl) (lw : List Wt) (w : World) {lo hi lo2 hi2 lo3 hi3 : Nat} (h0 : Rd Nm.cells 1 w lo3 hi3 vt st) (h : Rd Sl.cells 3 w lo hi vs ls) (h2 : Rd Wt.cells 2 w lo2 hi2 vw lw) (hh0 : hi3 ≤ w.heap.size) (hh : hi ≤ w.heap.size) (hh2 : hi2 ≤ w.heap.size) (hl : st.length ≤ 1048576) :
  Calls Tryz.prog 16 #[.agg #[.int .i64 m, vt, vs, vw]] w fun e w' => e = .returned (.tuple #[.int .i64 (Fa.deR m st ls lw), .bool (Fa.good m st ls lw)]) ∧ Below w.heap.size w w' := by
 have b0 : Below w.heap.size w (w.alloc (.cells #[.int .i64 m, vt, vs, vw] 30)) := (Below.refl w.heap.size w).alloc (Nat.le_refl _) _
 have z0 : (w.alloc (.cells #[.int .i64 m, vt, vs, vw] 30)).heap.size = w.heap.size + 1 := by simp
 have bx := Box.new w #[.int .i64 m, vt, vs, vw] 30 rfl
 have ht := h0.below b0 hh0
 have hs := h.below b0 hh
 have hw := h2.below b0 hh2
 have hv0_ := h0.form
 have hv_ := h.form
 have hv2_ := h2.form
 clear h0 h h2
 generalize hwA : w.alloc (.cells #[.int .i64 m, vt, vs, vw] 30) = wA at *
 obtain ⟨At, nt, dt, rfl, _, _, _⟩ := hv0_
 obtain ⟨A0, n0, d0, rfl, _, _, _⟩ := hv_
 obtain ⟨A1, n1, d1, rfl, _, _, _⟩ := hv2_
 have c1 := implIsInterface_any m _ _ _ st ls lw wA ht hs hw (by omega) (by omega) (by omega) hl
 have HN := Lib.hid ht.n_eq.1
 cases hg : Fa.good m st ls lw
 ·have HF := Lib.hid (show Fa.deR m st ls lw = 0 from by rw [Fa.deR, if_neg (by rw [hg]; decide)])
  rw [hg] at c1
  clear hg
  go_enter Tryz.func16, Tryz.ntmps16
  have bx_0 := bx.c0
  have bx_1 := bx.c1
  have bx_2 := bx.c2
  have bx_3 := bx.c3
  have bx_z := bx.frozen
  have bx_l := bx.lt
  go_wp2_with fail
  clear hwA
  clear bx_0 bx_1 bx_2 bx_3 bx_z bx_l
  refine (c1).mono ?_; rintro q_ w1 ⟨rfl, b_1⟩
  replace bx := bx.below b_1 bx.lt
  replace ht := ht.below b_1 (by omega)
  replace hs := hs.below b_1 (by omega)
  replace hw := hw.below b_1 (by omega)
  have z_2 := b_1.size
  replace b0 := b0.trans (b_1.mono (by omega))
  clear b_1
  have bx_0 := bx.c0
  have bx_1 := bx.c1
  have bx_2 := bx.c2
  have bx_3 := bx.c3
  have bx_z := bx.frozen
  have bx_l := bx.lt
  go_wp2_with fail
  clear bx_0 bx_1 bx_2 bx_3 bx_z bx_l
  go_ret2
  exact ⟨by rw [HF.out]; rfl, b0⟩
 ·have HF := Lib.hid (show Fa.deR m st ls lw = st.length from by rw [Fa.deR, if_pos hg])
  have HX := Lib.hid (Fa.slots hg)
  rw [hg] at c1
  clear hg
  go_enter Tryz.func16, Tryz.ntmps16
  have bx_0 := bx.c0
  have bx_1 := bx.c1
  have bx_2 := bx.c2
  have bx_3 := bx.c3
  have bx_z := bx.frozen
  have bx_l := bx.lt
  go_wp2_with fail
  clear hwA
  clear bx_0 bx_1 bx_2 bx_3 bx_z bx_l
  refine (c1).mono ?_; rintro q_ w1 ⟨rfl, b_1⟩
  replace bx := bx.below b_1 bx.lt
  replace ht := ht.below b_1 (by omega)
  replace hs := hs.below b_1 (by omega)
  replace hw := hw.below b_1 (by omega)
  have z_2 := b_1.size
  replace b0 := b0.trans (b_1.mono (by omega))
  clear b_1
  have bx_0 := bx.c0
  have bx_1 := bx.c1
  have bx_2 := bx.c2
  have bx_3 := bx.c3
  have bx_z := bx.frozen
  have bx_l := bx.lt
  go_wp2_with fail
  clear bx_0 bx_1 bx_2 bx_3 bx_z bx_l
  go_ret2
  exact ⟨by rw [HF.out, HN.out]; rfl, b0⟩
set_option maxHeartbeats 2000000 in
theorem implRunningPriority_any (m : Int) (vt vs vw : Value) (st : List Int) (ls : List Sl) (lw : List Wt) (w : World) {lo hi lo2 hi2 lo3 hi3 : Nat} (h0 : Rd Nm.cells 1 w lo3 hi3 vt st) (h : Rd Sl.cells 3 w lo hi vs ls) (h2 : Rd Wt.cells 2 w lo2 hi2 vw lw) (hh0 : hi3 ≤ w.heap.size) (hh : hi ≤ w.heap.size) (hh2 : hi2 ≤ w.heap.size) (hl : st.length ≤ 1048576) :
  Calls Tryz.prog 14 #[.agg #[.int .i64 m, vt, vs, vw]] w fun e w' => e = .returned (.tuple #[.int .i64 (Fa.rpR m st ls lw), .bool (Fa.good m st ls lw)]) ∧ Below w.heap.size w w' := by
 have b0 : Below w.heap.size w (w.alloc (.cells #[.int .i64 m, vt, vs, vw] 30)) := (Below.refl w.heap.size w).alloc (Nat.le_refl _) _
 have z0 : (w.alloc (.cells #[.int .i64 m, vt, vs, vw] 30)).heap.size = w.heap.size + 1 := by simp
 have bx := Box.new w #[.int .i64 m, vt, vs, vw] 30 rfl
 have ht := h0.below b0 hh0
 have hs := h.below b0 hh
 have hw := h2.below b0 hh2
 have hv0_ := h0.form
 have hv_ := h.form
 have hv2_ := h2.form
 clear h0 h h2
 generalize hwA : w.alloc (.cells #[.int .i64 m, vt, vs, vw] 30) = wA at *
 obtain ⟨At, nt, dt, rfl, _, _, _⟩ := hv0_
 obtain ⟨A0, n0, d0, rfl, _, _, _⟩ := hv_
 obtain ⟨A1, n1, d1, rfl, _, _, _⟩ := hv2_
 have c1 := implIsInterface_any m _ _ _ st ls lw wA ht hs hw (by omega) (by omega) (by omega) hl
 have HN := Lib.hid ht.n_eq.1
 cases hg : Fa.good m st ls lw
 ·have HF := Lib.hid (show Fa.rpR m st ls lw = 0 from by rw [Fa.rpR, if_neg (by rw [hg]; decide)])
  rw [hg] at c1
  clear hg
  go_enter Tryz.func14, Tryz.ntmps14
  have bx_0 := bx.c0
  have bx_1 := bx.c1
  have bx_2 := bx.c2
  have bx_3 := bx.c3
  have bx_z := bx.frozen
  have bx_l := bx.lt
  go_wp2_with fail
  clear hwA
  clear bx_0 bx_1 bx_2 bx_3 bx_z bx_l
  refine (c1).mono ?_; rintro q_ w1 ⟨rfl, b_1⟩
  replace bx := bx.below b_1 bx.lt
  replace ht := ht.below b_1 (by omega)
  replace hs := hs.below b_1 (by omega)
  replace hw := hw.below b_1 (by omega)
  have z_2 := b_1.size
  replace b0 := b0.trans (b_1.mono (by omega))
  clear b_1
  have bx_0 := bx.c0
  have bx_1 := bx.c1
  have bx_2 := bx.c2
  have bx_3 := bx.c3
  have bx_z := bx.frozen
  have bx_l := bx.lt
  go_wp2_with fail
  clear bx_0 bx_1 bx_2 bx_3 bx_z bx_l
  go_ret2
  exact ⟨by rw [HF.out]; rfl, b0⟩
 ·have HF := Lib.hid (show Fa.rpR m st ls lw = Fa.run st ls from by rw [Fa.rpR, if_pos hg])
  have HX := Lib.hid (Fa.slots hg)
  rw [hg] at c1
  clear hg
  go_enter Tryz.func14, Tryz.ntmps14
  have bx_0 := bx.c0
  have bx_1 := bx.c1
  have bx_2 := bx.c2
  have bx_3 := bx.c3
  have bx_z := bx.frozen
  have bx_l := bx.lt
  go_wp2_with fail
  clear hwA
  clear bx_0 bx_1 bx_2 bx_3 bx_z bx_l
  refine (c1).mono ?_; rintro q_ w1 ⟨rfl, b_1⟩
  replace bx := bx.below b_1 bx.lt
  replace ht := ht.below b_1 (by omega)
  replace hs := hs.below b_1 (by omega)
  replace hw := hw.below b_1 (by omega)
  have z_2 := b_1.size
  replace b0 := b0.trans (b_1.mono (by omega))
  clear b_1
  have bx_0 := bx.c0
  have bx_1 := bx.c1
  have bx_2 := bx.c2
  have bx_3 := bx.c3
  have bx_z := bx.frozen
  have bx_l := bx.lt
  go_wp2_with fail
  clear bx_0 bx_1 bx_2 bx_3 bx_z bx_l
  refine (implRunning_in m _ _ _ st ls lw w1 ht hs hw (by omega) (by omega) (by omega) HX.out).mono ?_; rintro q_ w3 ⟨rfl, b_3⟩
  replace bx := bx.below b_3 bx.lt
  replace ht := ht.below b_3 (by omega)
  replace hs := hs.below b_3 (by omega)
  replace hw := hw.below b_3 (by omega)
  have z_4 := b_3.size
  replace b0 := b0.trans (b_3.mono (by omega))
  clear b_3
  have bx_0 := bx.c0
  have bx_1 := bx.c1
  have bx_2 := bx.c2
  have bx_3 := bx.c3
  have bx_z := bx.frozen
  have bx_l := bx.lt
  go_wp2_with fail
  clear bx_0 bx_1 bx_2 bx_3 bx_z bx_l
  go_ret2
  exact ⟨by rw [HF.out]; rfl, b0⟩

end Go.Proofs.YtndfmkbpdoohfaaGreat

/- Copies of numbers as rows that can grow. Condition: at most 1048576 numbers. -/
namespace Go.Proofs.YtndfmkbpdoohfaaGreat
open Go.RowKit Go.ChangeShapes Go.WideShapes Go.Deep

theorem l1Own_own (B : Nat) (v : Value) (l : List Int) (w : World) {lo hi : Nat} (h : Rd Nm.cells 1 w lo hi v l) (hh : hi ≤ w.heap.size) (hB : B ≤ w.heap.size) (hl : l.length ≤ 1048576) :
  Calls Tryz.prog 77 #[v] w fun e w' => ∃ v', e = .returned v' ∧ w'.ownsRow B 3 1 v' l.length (l.flatMap Nm.cells) ∧ Below w.heap.size w w' := by
 have oE := own_empty w (base := w.heap.size) 3 1 (Nat.le_refl _)
 have o4 := own_empty w (base := B) 3 1 hB
 have b4 := (Below.refl w.heap.size w).alloc (Nat.le_refl _) (.cells #[] 3)
 have h4 := h.below b4 hh
 obtain ⟨A, n, c, rfl, H, hc, hm⟩ := h.form
 rw [← H.out] at hl
 go_enter Tryz.func77, Tryz.ntmps77
 go_wp2_with (at_builtin; (refine Nm.app_rd rfl _ _ rfl B (.slice (some ⟨w.heap.size, 0, none⟩) 0 0) 0 [] rfl o4 rfl h4 (by omega) (by simp; omega) ?_); (intro v3 w3 o3 g3))
 have oR := Ow.of_own Nm.cells_len o3 (l := l) (by simp) (by rw [← H.out]; omega)
 have b3 : Below w.heap.size w w3 := b4.grown g3 (by simp) (own_ge oE)
 obtain ⟨A3, n3, d3, rfl, _, _, _⟩ := oR.rd.form
 rw [Nat.zero_add, List.nil_append, H.out] at o3
 go_ret
 exact ⟨.slice A3 n3 d3, rfl, o3, b3⟩
theorem copyInts_own (B : Nat) (v : Value) (l : List Int) (w : World) {lo hi : Nat} (h : Rd Nm.cells 1 w lo hi v l) (hh : hi ≤ w.heap.size) (hB : B ≤ w.heap.size) (hl : l.length ≤ 1048576) :
  Calls Tryz.prog 40 #[v] w fun e w' => ∃ v', e = .returned v' ∧ w'.ownsRow B 3 1 v' l.length (l.flatMap Nm.cells) ∧ Below w.heap.size w w' := by
 have oE := own_empty w (base := w.heap.size) 3 1 (Nat.le_refl _)
 have o4 := own_empty w (base := B) 3 1 hB
 have b4 := (Below.refl w.heap.size w).alloc (Nat.le_refl _) (.cells #[] 3)
 have h4 := h.below b4 hh
 obtain ⟨A, n, c, rfl, H, hc, hm⟩ := h.form
 rw [← H.out] at hl
 go_enter Tryz.func40, Tryz.ntmps40
 go_wp2_with (at_builtin; (refine Nm.app_rd rfl _ _ rfl B (.slice (some ⟨w.heap.size, 0, none⟩) 0 0) 0 [] rfl o4 rfl h4 (by omega) (by simp; omega) ?_); (intro v3 w3 o3 g3))
 have oR := Ow.of_own Nm.cells_len o3 (l := l) (by simp) (by rw [← H.out]; omega)
 have b3 : Below w.heap.size w w3 := b4.grown g3 (by simp) (own_ge oE)
 obtain ⟨A3, n3, d3, rfl, _, _, _⟩ := oR.rd.form
 rw [Nat.zero_add, List.nil_append, H.out] at o3
 go_ret
 exact ⟨.slice A3 n3 d3, rfl, o3, b3⟩

end Go.Proofs.YtndfmkbpdoohfaaGreat

/- Taking the most urgent interrupt of an interface, the inner functions, in the program and in the reference. Conditions: valid slots, the stack's interrupts lie in them; room. -/
namespace Go.Proofs.YtndfmkbpdoohfaaGreat
open Go.RowKit Go.ChangeShapes Go.WideShapes Go.Deep

def Fa.tkT (st : List Int) (ls : List Sl) (m : Int) : List Int := if Sl.tkOk ls m then st ++ [Sl.tkI ls] else st
def Fa.tkU (st : List Int) (ls : List Sl) (m : Int) : List Int := if Sl.tkOk ls m then st ++ [Sl.tkI ls] else []
set_option maxHeartbeats 4000000 in
theorem specTakeF_in (m : Int) (vt vs vw : Value) (st : List Int) (ls : List Sl) (lw : List Wt) (w : World) {lo hi lo2 hi2 lo3 hi3 : Nat} (h0 : Rd Nm.cells 1 w lo3 hi3 vt st) (h : Rd Sl.cells 3 w lo hi vs ls) (h2 : Rd Wt.cells 2 w lo2 hi2 vw lw) (hh0 : hi3 ≤ w.heap.size) (hh : hi ≤ w.heap.size) (hh2 : hi2 ≤ w.heap.size) (hgood : Sl.good ls = true) (hix : ∀ i ∈ st, ∃ k : Nat, Sl.ix ls i = k ∧ k < ls.length) (hl : st.length ≤ 1048576) (hl2 : lw.length ≤ 1048576) :
  Calls Tryz.prog 36 #[.agg #[.int .i64 m, vt, vs, vw]] w fun e w' => ∃ v0 v1 v2, e = .returned (.tuple #[.agg #[.int .i64 m, v0, v1, v2], .int .i64 (Sl.tkW ls (minI m (Fa.run st ls)))]) ∧ Ow Nm.cells 1 3 w' w.heap.size w'.heap.size v0 (Fa.tkT st ls (minI m (Fa.run st ls))) ∧ Ow Sl.cells 3 93 w' w.heap.size w'.heap.size v1 (Sl.tkL ls (minI m (Fa.run st ls))) ∧ Ow Wt.cells 2 107 w' w.heap.size w'.heap.size v2 lw ∧ Below w.heap.size w w' := by
 have b0 : Below w.heap.size w ((w.alloc (.cells #[.int .i64 m, vt, vs, vw] 30)).alloc (.cells #[.int .i64 0, .slice none 0 0, .slice none 0 0, .slice none 0 0] 30)) := ((Below.refl w.heap.size w).alloc (Nat.le_refl _) _).alloc (by simp) _
 have z0 : ((w.alloc (.cells #[.int .i64 m, vt, vs, vw] 30)).alloc (.cells #[.int .i64 0, .slice none 0 0, .slice none 0 0, .slice none 0 0] 30)).heap.size = w.heap.size + 2 := by simp
 have bx := Box.new w #[.int .i64 m, vt, vs, vw] 30 rfl
 have bR := Box.new (g := w.heap.size + 1) (w.alloc (.cells #[.int .i64 m, vt, vs, vw] 30)) #[.int .i64 0, .slice none 0 0, .slice none 0 0, .slice none 0 0] 30 (by simp)
 replace bx := bx.below ((Below.refl _ (w.alloc (.cells #[.int .i64 m, vt, vs, vw] 30))).alloc (Nat.le_refl _) (.cells #[.int .i64 0, .slice none 0 0, .slice none 0 0, .slice none 0 0] 30)) bx.lt
 have ht := h0.below b0 hh0
 have hs := h.below b0 hh
 have hw := h2.below b0 hh2
 have hv0_ := h0.form
 have hv_ := h.form
 have hv2_ := h2.form
 clear h0 h h2
 generalize hwA : (w.alloc (.cells #[.int .i64 m, vt, vs, vw] 30)).alloc (.cells #[.int .i64 0, .slice none 0 0, .slice none 0 0, .slice none 0 0] 30) = wA at *
 obtain ⟨At, nt, dt, rfl, _, _, _⟩ := hv0_
 obtain ⟨A0, n0, d0, rfl, _, _, _⟩ := hv_
 obtain ⟨A1, n1, d1, rfl, _, _, _⟩ := hv2_
 have HG := Lib.hid hgood
 have HX := Lib.hid hix
 clear hgood hix
 go_enter Tryz.func36, Tryz.ntmps36
 have bx_0 := bx.c0
 have bx_1 := bx.c1
 have bx_2 := bx.c2
 have bx_3 := bx.c3
 have bx_z := bx.frozen
 have bx_l := bx.lt
 have bR_0 := bR.c0
 have bR_1 := bR.c1
 have bR_2 := bR.c2
 have bR_3 := bR.c3
 have bR_z := bR.frozen
 have bR_l := bR.lt
 go_upto_region 1 with fail
 clear hwA
 clear bx_0 bx_1 bx_2 bx_3 bx_z bx_l bR_0 bR_1 bR_2 bR_3 bR_z bR_l
 go_cut [4, 5] (fun s4 s5 wx => ∃ (ww : World) (gT : Nat) (v1 v2 : Value), ww = wx ∧ s4 = .pointer (some ⟨gT, 0, none⟩) ∧ s5 = .int .i64 (Sl.tkW ls (minI m (Fa.run st ls))) ∧ Below wA.heap.size wA wx ∧ wA.heap.size ≤ gT ∧ Box wx gT 28 [v1, v2] ∧ Ow Sl.cells 3 93 wx wA.heap.size wx.heap.size v1 (Sl.tkL ls (minI m (Fa.run st ls))) ∧ Ow Wt.cells 2 107 wx wA.heap.size wx.heap.size v2 lw)
 case first =>
  have bC := Below.refl wA.heap.size wA
  have zB := b0.size
  refine wp_region_held_drew (S := fun W => Box W (w.heap.size) 30 [.int .i64 m, .slice At nt dt, .slice A0 n0 d0, .slice A1 n1 d1]) (by kernel_rfl) (show (fun (W : World) => Box W (w.heap.size) 30 [.int .i64 m, .slice At nt dt, .slice A0 n0 d0, .slice A1 n1 d1]) wA.drew from bx) (fun hHeld => ?_)
  refine wpAnyH_take (i := 0) (v := .pointer (some ⟨w.heap.size, 2, none⟩)) rfl (by kernel_rfl) (by kernel_rfl) (by kernel_rfl) (fun _ _ _ h => h) (Or.inl ⟨by rfl, by intro w hSw; have hS0 := hSw; have y00 := hS0.c0; have y01 := hS0.c1; have y02 := hS0.c2; have y03 := hS0.c3; go_simp⟩) hHeld ?_
  refine wpAnyH_take (i := 1) (v := .agg #[.slice A0 n0 d0, .slice A1 n1 d1]) rfl (by kernel_rfl) (by kernel_rfl) (by kernel_rfl) (fun _ _ _ h => h) (Or.inl ⟨by rfl, by intro w hSw; have hS0 := hSw; have y00 := hS0.c0; have y01 := hS0.c1; have y02 := hS0.c2; have y03 := hS0.c3; go_simp⟩) hHeld ?_
  refine wpAnyH_take (i := 2) (v := .pointer (some ⟨w.heap.size, 0, none⟩)) rfl (by kernel_rfl) (by kernel_rfl) (by kernel_rfl) (fun _ _ _ h => h) (Or.inl ⟨by rfl, by intro w hSw; have hS0 := hSw; have y00 := hS0.c0; have y01 := hS0.c1; have y02 := hS0.c2; have y03 := hS0.c3; go_simp⟩) hHeld ?_
  refine wpAnyH_take (i := 3) (v := .int .i64 m) rfl (by kernel_rfl) (by kernel_rfl) (by kernel_rfl) (fun _ _ _ h => h) (Or.inl ⟨by rfl, by intro w hSw; have hS0 := hSw; have y00 := hS0.c0; have y01 := hS0.c1; have y02 := hS0.c2; have y03 := hS0.c3; go_simp⟩) hHeld ?_
  refine wpAnyH_take (i := 4) (v := .agg #[.int .i64 m, .slice At nt dt, .slice A0 n0 d0, .slice A1 n1 d1]) rfl (by kernel_rfl) (by kernel_rfl) (by kernel_rfl) (fun _ _ _ h => h) (Or.inl ⟨by rfl, by intro w hSw; have hS0 := hSw; have y00 := hS0.c0; have y01 := hS0.c1; have y02 := hS0.c2; have y03 := hS0.c3; go_simp⟩) hHeld ?_
  clear hHeld
  refine held_gen (F := fun W' => Below wA.heap.size wA W') (Below.refl wA.heap.size wA).drew ?_
  rintro w1 b_1
  replace bx := bx.below b_1 bx.lt
  replace bR := bR.below b_1 bR.lt
  replace ht := ht.below b_1 (by omega)
  replace hs := hs.below b_1 (by omega)
  replace hw := hw.below b_1 (by omega)
  have z_2 := b_1.size
  replace bC := bC.trans (b_1.mono (by omega))
  clear b_1
  refine wpAnyH_ready (rs := [5, 11]) (by kernel_rfl) (by decide) ?_
  refine AllReadyH.cons rfl (fun K3a hK3a => ?_) (AllReadyH.cons rfl (fun K3b hK3b => ?_) AllReadyH.nil)
  ·go_simp
   refine (specRunning_in m _ _ _ st ls lw w1 ht hs hw (by omega) (by omega) (by omega) HX.out).mono ?_; rintro q_ w4 ⟨rfl, b_4⟩
   replace bx := bx.below b_4 bx.lt
   replace bR := bR.below b_4 bR.lt
   replace ht := ht.below b_4 (by omega)
   replace hs := hs.below b_4 (by omega)
   replace hw := hw.below b_4 (by omega)
   have z_5 := b_4.size
   replace bC := bC.trans (b_4.mono (by omega))
   clear b_4
   refine hK3a.out _ _ bx (fun _ => ?_)
   refine wpAnyH_ready (rs := [6, 11]) (by kernel_rfl) (by decide) ?_
   refine AllReadyH.cons rfl (fun K6a hK6a => ?_) (AllReadyH.cons rfl (fun K6b hK6b => ?_) AllReadyH.nil)
   ·go_simp
    refine (l1Least_any m (Fa.run st ls) w4).mono ?_; rintro q_ w_ ⟨rfl, rfl⟩
    refine hK6a.out _ _ bx (fun _ => ?_)
    refine wpAnyH_ready (rs := [7, 11]) (by kernel_rfl) (by decide) ?_
    refine AllReadyH.cons rfl (fun K7a hK7a => ?_) (AllReadyH.cons rfl (fun K7b hK7b => ?_) AllReadyH.nil)
    ·go_simp
     refine (specTakeQ_in _ _ ls lw (minI m (Fa.run st ls)) w4 hs hw (by omega) (by omega) HG.out hl2).mono ?_; rintro q_ w8 ⟨v5, v6, rfl, o5, o6, b_8⟩
     replace bx := bx.below b_8 bx.lt
     replace bR := bR.below b_8 bR.lt
     replace ht := ht.below b_8 (by omega)
     replace hs := hs.below b_8 (by omega)
     replace hw := hw.below b_8 (by omega)
     have z_9 := b_8.size
     replace bC := bC.trans (b_8.mono (by omega))
     clear b_8
     obtain ⟨A5, n5, d5, rfl, _, _, _⟩ := o5.rd.form
     obtain ⟨A6, n6, d6, rfl, _, _, _⟩ := o6.rd.form
     refine hK7a.out _ _ bx (fun _ => ?_)
     have hHeld : (fun (W : World) => Box W (w.heap.size) 30 [.int .i64 m, .slice At nt dt, .slice A0 n0 d0, .slice A1 n1 d1]) w8 := bx
     refine wpAnyH_take (i := 8) (v := .tuple #[.agg #[.slice A5 n5 d5, .slice A6 n6 d6], .int .i64 (Sl.tkW ls (minI m (Fa.run st ls)))]) rfl (by kernel_rfl) (by kernel_rfl) (by kernel_rfl) (fun _ _ _ h => h) (Or.inl ⟨by rfl, by intro w hSw; have hS0 := hSw; have y00 := hS0.c0; have y01 := hS0.c1; have y02 := hS0.c2; have y03 := hS0.c3; go_simp⟩) hHeld ?_
     refine wpAnyH_take (i := 9) (v := .agg #[.slice A5 n5 d5, .slice A6 n6 d6]) rfl (by kernel_rfl) (by kernel_rfl) (by kernel_rfl) (fun _ _ _ h => h) (Or.inl ⟨by rfl, by intro w hSw; have hS0 := hSw; have y00 := hS0.c0; have y01 := hS0.c1; have y02 := hS0.c2; have y03 := hS0.c3; go_simp⟩) hHeld ?_
     refine wpAnyH_take (i := 10) (v := .int .i64 (Sl.tkW ls (minI m (Fa.run st ls)))) rfl (by kernel_rfl) (by kernel_rfl) (by kernel_rfl) (fun _ _ _ h => h) (Or.inl ⟨by rfl, by intro w hSw; have hS0 := hSw; have y00 := hS0.c0; have y01 := hS0.c1; have y02 := hS0.c2; have y03 := hS0.c3; go_simp⟩) hHeld ?_
     clear hHeld
     refine wpAnyH_ready (rs := [11]) (by kernel_rfl) (by decide) ?_
     refine AllReadyH.cons rfl (fun K10 hK10 => ?_) AllReadyH.nil
     go_simp
     have b_11 := (Below.refl w8.heap.size w8).alloc (Nat.le_refl _) (.cells #[.slice none 0 0, .slice none 0 0] 28)
     have bT := Box.new w8 #[.slice none 0 0, .slice none 0 0] 28 rfl
     replace bx := bx.below b_11 bx.lt
     replace bR := bR.below b_11 bR.lt
     replace ht := ht.below b_11 (by omega)
     replace hs := hs.below b_11 (by omega)
     replace hw := hw.below b_11 (by omega)
     replace o5 := o5.below b_11 (by omega)
     replace o6 := o6.below b_11 (by omega)
     have z_12 := b_11.size
     replace bC := bC.trans (b_11.mono (by omega))
     clear b_11
     generalize w8.alloc _ = w11 at *
     generalize w8.heap.size = g11 at *
     refine hK10.out _ _ bx (fun _ => ?_)
     refine wpAnyH_ready (rs := [12]) (by kernel_rfl) (by decide) ?_
     refine AllReadyH.cons rfl (fun K13 hK13 => ?_) AllReadyH.nil
     have bx_0 := bx.c0
     have bx_1 := bx.c1
     have bx_2 := bx.c2
     have bx_3 := bx.c3
     have bx_z := bx.frozen
     have bx_l := bx.lt
     have bR_0 := bR.c0
     have bR_1 := bR.c1
     have bR_2 := bR.c2
     have bR_3 := bR.c3
     have bR_z := bR.frozen
     have bR_l := bR.lt
     have bT_0 := bT.c0
     have bT_1 := bT.c1
     have bT_z := bT.frozen
     have bT_l := bT.lt
     go_simp
     clear bx_0 bx_1 bx_2 bx_3 bx_z bx_l bR_0 bR_1 bR_2 bR_3 bR_z bR_l bT_0 bT_1 bT_z bT_l
     generalize hwz : World.setCell (World.setCell _ _ _) _ _ = wz_
     obtain rfl : wz_ = setL w11 (g11) 0 [.slice A5 n5 d5, .slice A6 n6 d6] := hwz.symm
     clear hwz
     replace bx := bx.other (b := g11) (by omega) 0 [.slice A5 n5 d5, .slice A6 n6 d6]
     replace bR := bR.other (b := g11) (by omega) 0 [.slice A5 n5 d5, .slice A6 n6 d6]
     replace ht := ht.away (g := g11) (by omega) 0 [.slice A5 n5 d5, .slice A6 n6 d6]
     replace hs := hs.away (g := g11) (by omega) 0 [.slice A5 n5 d5, .slice A6 n6 d6]
     replace hw := hw.away (g := g11) (by omega) 0 [.slice A5 n5 d5, .slice A6 n6 d6]
     replace o5 := o5.box (g := g11) bT (by decide) 0 [.slice A5 n5 d5, .slice A6 n6 d6]
     replace o6 := o6.box (g := g11) bT (by decide) 0 [.slice A5 n5 d5, .slice A6 n6 d6]
     replace bC := setL_below bC [.slice A5 n5 d5, .slice A6 n6 d6] (g11) 0 (by omega)
     have zs_14 : (setL w11 (g11) 0 [.slice A5 n5 d5, .slice A6 n6 d6]).heap.size = w11.heap.size := setL_size _ _ _ _
     replace bT := bT.setAll [.slice A5 n5 d5, .slice A6 n6 d6] rfl
     generalize setL w11 _ 0 _ = w14 at *
     refine hK13.out _ _ bx (fun _ => ?_)
     refine wpAnyH_ready (rs := [13]) (by kernel_rfl) (by decide) ?_
     refine AllReadyH.cons rfl (fun K15 hK15 => ?_) AllReadyH.nil
     go_simp
     refine hK15.out _ _ bx (fun _ => ?_)
     refine ⟨by kernel_rfl, ?_⟩
     have bx_0 := bx.c0
     have bx_1 := bx.c1
     have bx_2 := bx.c2
     have bx_3 := bx.c3
     have bx_z := bx.frozen
     have bx_l := bx.lt
     have bR_0 := bR.c0
     have bR_1 := bR.c1
     have bR_2 := bR.c2
     have bR_3 := bR.c3
     have bR_z := bR.frozen
     have bR_l := bR.lt
     have bT_0 := bT.c0
     have bT_1 := bT.c1
     have bT_z := bT.frozen
     have bT_l := bT.lt
     go_wp2_with fail
     clear bx_0 bx_1 bx_2 bx_3 bx_z bx_l bR_0 bR_1 bR_2 bR_3 bR_z bR_l bT_0 bT_1 bT_z bT_l
     go_meet
     exact ⟨_, _, _, _, rfl, rfl, rfl, bC, by omega, bT, o5.mono (by omega) (by omega), o6.mono (by omega) (by omega)⟩
    ·go_simp
     have b_8 := (Below.refl w4.heap.size w4).alloc (Nat.le_refl _) (.cells #[.slice none 0 0, .slice none 0 0] 28)
     have bT := Box.new w4 #[.slice none 0 0, .slice none 0 0] 28 rfl
     replace bx := bx.below b_8 bx.lt
     replace bR := bR.below b_8 bR.lt
     replace ht := ht.below b_8 (by omega)
     replace hs := hs.below b_8 (by omega)
     replace hw := hw.below b_8 (by omega)
     have z_9 := b_8.size
     replace bC := bC.trans (b_8.mono (by omega))
     clear b_8
     generalize w4.alloc _ = w8 at *
     generalize w4.heap.size = g8 at *
     refine hK7b.out _ _ bx (fun _ => ?_)
     refine wpAnyH_ready (rs := [7]) (by kernel_rfl) (by decide) ?_
     refine AllReadyH.cons rfl (fun K10 hK10 => ?_) AllReadyH.nil
     go_simp
     refine (specTakeQ_in _ _ ls lw (minI m (Fa.run st ls)) w8 hs hw (by omega) (by omega) HG.out hl2).mono ?_; rintro q_ w11 ⟨v5, v6, rfl, o5, o6, b_11⟩
     replace bx := bx.below b_11 bx.lt
     replace bR := bR.below b_11 bR.lt
     replace bT := bT.below b_11 bT.lt
     replace ht := ht.below b_11 (by omega)
     replace hs := hs.below b_11 (by omega)
     replace hw := hw.below b_11 (by omega)
     have z_12 := b_11.size
     replace bC := bC.trans (b_11.mono (by omega))
     clear b_11
     obtain ⟨A5, n5, d5, rfl, _, _, _⟩ := o5.rd.form
     obtain ⟨A6, n6, d6, rfl, _, _, _⟩ := o6.rd.form
     refine hK10.out _ _ bx (fun _ => ?_)
     have hHeld : (fun (W : World) => Box W (w.heap.size) 30 [.int .i64 m, .slice At nt dt, .slice A0 n0 d0, .slice A1 n1 d1]) w11 := bx
     refine wpAnyH_take (i := 8) (v := .tuple #[.agg #[.slice A5 n5 d5, .slice A6 n6 d6], .int .i64 (Sl.tkW ls (minI m (Fa.run st ls)))]) rfl (by kernel_rfl) (by kernel_rfl) (by kernel_rfl) (fun _ _ _ h => h) (Or.inl ⟨by rfl, by intro w hSw; have hS0 := hSw; have y00 := hS0.c0; have y01 := hS0.c1; have y02 := hS0.c2; have y03 := hS0.c3; go_simp⟩) hHeld ?_
     refine wpAnyH_take (i := 9) (v := .agg #[.slice A5 n5 d5, .slice A6 n6 d6]) rfl (by kernel_rfl) (by kernel_rfl) (by kernel_rfl) (fun _ _ _ h => h) (Or.inl ⟨by rfl, by intro w hSw; have hS0 := hSw; have y00 := hS0.c0; have y01 := hS0.c1; have y02 := hS0.c2; have y03 := hS0.c3; go_simp⟩) hHeld ?_
     refine wpAnyH_take (i := 10) (v := .int .i64 (Sl.tkW ls (minI m (Fa.run st ls)))) rfl (by kernel_rfl) (by kernel_rfl) (by kernel_rfl) (fun _ _ _ h => h) (Or.inl ⟨by rfl, by intro w hSw; have hS0 := hSw; have y00 := hS0.c0; have y01 := hS0.c1; have y02 := hS0.c2; have y03 := hS0.c3; go_simp⟩) hHeld ?_
     clear hHeld
     refine wpAnyH_ready (rs := [12]) (by kernel_rfl) (by decide) ?_
     refine AllReadyH.cons rfl (fun K13 hK13 => ?_) AllReadyH.nil
     have bx_0 := bx.c0
     have bx_1 := bx.c1
     have bx_2 := bx.c2
     have bx_3 := bx.c3
     have bx_z := bx.frozen
     have bx_l := bx.lt
     have bR_0 := bR.c0
     have bR_1 := bR.c1
     have bR_2 := bR.c2
     have bR_3 := bR.c3
     have bR_z := bR.frozen
     have bR_l := bR.lt
     have bT_0 := bT.c0
     have bT_1 := bT.c1
     have bT_z := bT.frozen
     have bT_l := bT.lt
     go_simp
     clear bx_0 bx_1 bx_2 bx_3 bx_z bx_l bR_0 bR_1 bR_2 bR_3 bR_z bR_l bT_0 bT_1 bT_z bT_l
     generalize hwz : World.setCell (World.setCell _ _ _) _ _ = wz_
     obtain rfl : wz_ = setL w11 (g8) 0 [.slice A5 n5 d5, .slice A6 n6 d6] := hwz.symm
     clear hwz
     replace bx := bx.other (b := g8) (by omega) 0 [.slice A5 n5 d5, .slice A6 n6 d6]
     replace bR := bR.other (b := g8) (by omega) 0 [.slice A5 n5 d5, .slice A6 n6 d6]
     replace ht := ht.away (g := g8) (by omega) 0 [.slice A5 n5 d5, .slice A6 n6 d6]
     replace hs := hs.away (g := g8) (by omega) 0 [.slice A5 n5 d5, .slice A6 n6 d6]
     replace hw := hw.away (g := g8) (by omega) 0 [.slice A5 n5 d5, .slice A6 n6 d6]
     replace o5 := o5.box (g := g8) bT (by decide) 0 [.slice A5 n5 d5, .slice A6 n6 d6]
     replace o6 := o6.box (g := g8) bT (by decide) 0 [.slice A5 n5 d5, .slice A6 n6 d6]
     replace bC := setL_below bC [.slice A5 n5 d5, .slice A6 n6 d6] (g8) 0 (by omega)
     have zs_14 : (setL w11 (g8) 0 [.slice A5 n5 d5, .slice A6 n6 d6]).heap.size = w11.heap.size := setL_size _ _ _ _
     replace bT := bT.setAll [.slice A5 n5 d5, .slice A6 n6 d6] rfl
     generalize setL w11 _ 0 _ = w14 at *
     refine hK13.out _ _ bx (fun _ => ?_)
     refine wpAnyH_ready (rs := [13]) (by kernel_rfl) (by decide) ?_
     refine AllReadyH.cons rfl (fun K15 hK15 => ?_) AllReadyH.nil
     go_simp
     refine hK15.out _ _ bx (fun _ => ?_)
     refine ⟨by kernel_rfl, ?_⟩
     have bx_0 := bx.c0
     have bx_1 := bx.c1
     have bx_2 := bx.c2
     have bx_3 := bx.c3
     have bx_z := bx.frozen
     have bx_l := bx.lt
     have bR_0 := bR.c0
     have bR_1 := bR.c1
     have bR_2 := bR.c2
     have bR_3 := bR.c3
     have bR_z := bR.frozen
     have bR_l := bR.lt
     have bT_0 := bT.c0
     have bT_1 := bT.c1
     have bT_z := bT.frozen
     have bT_l := bT.lt
     go_wp2_with fail
     clear bx_0 bx_1 bx_2 bx_3 bx_z bx_l bR_0 bR_1 bR_2 bR_3 bR_z bR_l bT_0 bT_1 bT_z bT_l
     go_meet
     exact ⟨_, _, _, _, rfl, rfl, rfl, bC, by omega, bT, o5.mono (by omega) (by omega), o6.mono (by omega) (by omega)⟩
   ·go_simp
    have b_7 := (Below.refl w4.heap.size w4).alloc (Nat.le_refl _) (.cells #[.slice none 0 0, .slice none 0 0] 28)
    have bT := Box.new w4 #[.slice none 0 0, .slice none 0 0] 28 rfl
    replace bx := bx.below b_7 bx.lt
    replace bR := bR.below b_7 bR.lt
    replace ht := ht.below b_7 (by omega)
    replace hs := hs.below b_7 (by omega)
    replace hw := hw.below b_7 (by omega)
    have z_8 := b_7.size
    replace bC := bC.trans (b_7.mono (by omega))
    clear b_7
    generalize w4.alloc _ = w7 at *
    generalize w4.heap.size = g7 at *
    refine hK6b.out _ _ bx (fun _ => ?_)
    refine wpAnyH_ready (rs := [6]) (by kernel_rfl) (by decide) ?_
    refine AllReadyH.cons rfl (fun K9 hK9 => ?_) AllReadyH.nil
    go_simp
    refine (l1Least_any m (Fa.run st ls) w7).mono ?_; rintro q_ w_ ⟨rfl, rfl⟩
    refine hK9.out _ _ bx (fun _ => ?_)
    refine wpAnyH_ready (rs := [7]) (by kernel_rfl) (by decide) ?_
    refine AllReadyH.cons rfl (fun K10 hK10 => ?_) AllReadyH.nil
    go_simp
    refine (specTakeQ_in _ _ ls lw (minI m (Fa.run st ls)) w7 hs hw (by omega) (by omega) HG.out hl2).mono ?_; rintro q_ w11 ⟨v5, v6, rfl, o5, o6, b_11⟩
    replace bx := bx.below b_11 bx.lt
    replace bR := bR.below b_11 bR.lt
    replace bT := bT.below b_11 bT.lt
    replace ht := ht.below b_11 (by omega)
    replace hs := hs.below b_11 (by omega)
    replace hw := hw.below b_11 (by omega)
    have z_12 := b_11.size
    replace bC := bC.trans (b_11.mono (by omega))
    clear b_11
    obtain ⟨A5, n5, d5, rfl, _, _, _⟩ := o5.rd.form
    obtain ⟨A6, n6, d6, rfl, _, _, _⟩ := o6.rd.form
    refine hK10.out _ _ bx (fun _ => ?_)
    have hHeld : (fun (W : World) => Box W (w.heap.size) 30 [.int .i64 m, .slice At nt dt, .slice A0 n0 d0, .slice A1 n1 d1]) w11 := bx
    refine wpAnyH_take (i := 8) (v := .tuple #[.agg #[.slice A5 n5 d5, .slice A6 n6 d6], .int .i64 (Sl.tkW ls (minI m (Fa.run st ls)))]) rfl (by kernel_rfl) (by kernel_rfl) (by kernel_rfl) (fun _ _ _ h => h) (Or.inl ⟨by rfl, by intro w hSw; have hS0 := hSw; have y00 := hS0.c0; have y01 := hS0.c1; have y02 := hS0.c2; have y03 := hS0.c3; go_simp⟩) hHeld ?_
    refine wpAnyH_take (i := 9) (v := .agg #[.slice A5 n5 d5, .slice A6 n6 d6]) rfl (by kernel_rfl) (by kernel_rfl) (by kernel_rfl) (fun _ _ _ h => h) (Or.inl ⟨by rfl, by intro w hSw; have hS0 := hSw; have y00 := hS0.c0; have y01 := hS0.c1; have y02 := hS0.c2; have y03 := hS0.c3; go_simp⟩) hHeld ?_
    refine wpAnyH_take (i := 10) (v := .int .i64 (Sl.tkW ls (minI m (Fa.run st ls)))) rfl (by kernel_rfl) (by kernel_rfl) (by kernel_rfl) (fun _ _ _ h => h) (Or.inl ⟨by rfl, by intro w hSw; have hS0 := hSw; have y00 := hS0.c0; have y01 := hS0.c1; have y02 := hS0.c2; have y03 := hS0.c3; go_simp⟩) hHeld ?_
    clear hHeld
    refine wpAnyH_ready (rs := [12]) (by kernel_rfl) (by decide) ?_
    refine AllReadyH.cons rfl (fun K13 hK13 => ?_) AllReadyH.nil
    have bx_0 := bx.c0
    have bx_1 := bx.c1
    have bx_2 := bx.c2
    have bx_3 := bx.c3
    have bx_z := bx.frozen
    have bx_l := bx.lt
    have bR_0 := bR.c0
    have bR_1 := bR.c1
    have bR_2 := bR.c2
    have bR_3 := bR.c3
    have bR_z := bR.frozen
    have bR_l := bR.lt
    have bT_0 := bT.c0
    have bT_1 := bT.c1
    have bT_z := bT.frozen
    have bT_l := bT.lt
    go_simp
    clear bx_0 bx_1 bx_2 bx_3 bx_z bx_l bR_0 bR_1 bR_2 bR_3 bR_z bR_l bT_0 bT_1 bT_z bT_l
    generalize hwz : World.setCell (World.setCell _ _ _) _ _ = wz_
    obtain rfl : wz_ = setL w11 (g7) 0 [.slice A5 n5 d5, .slice A6 n6 d6] := hwz.symm
    clear hwz
    replace bx := bx.other (b := g7) (by omega) 0 [.slice A5 n5 d5, .slice A6 n6 d6]
    replace bR := bR.other (b := g7) (by omega) 0 [.slice A5 n5 d5, .slice A6 n6 d6]
    replace ht := ht.away (g := g7) (by omega) 0 [.slice A5 n5 d5, .slice A6 n6 d6]
    replace hs := hs.away (g := g7) (by omega) 0 [.slice A5 n5 d5, .slice A6 n6 d6]
    replace hw := hw.away (g := g7) (by omega) 0 [.slice A5 n5 d5, .slice A6 n6 d6]
    replace o5 := o5.box (g := g7) bT (by decide) 0 [.slice A5 n5 d5, .slice A6 n6 d6]
    replace o6 := o6.box (g := g7) bT (by decide) 0 [.slice A5 n5 d5, .slice A6 n6 d6]
    replace bC := setL_below bC [.slice A5 n5 d5, .slice A6 n6 d6] (g7) 0 (by omega)
    have zs_14 : (setL w11 (g7) 0 [.slice A5 n5 d5, .slice A6 n6 d6]).heap.size = w11.heap.size := setL_size _ _ _ _
    replace bT := bT.setAll [.slice A5 n5 d5, .slice A6 n6 d6] rfl
    generalize setL w11 _ 0 _ = w14 at *
    refine hK13.out _ _ bx (fun _ => ?_)
    refine wpAnyH_ready (rs := [13]) (by kernel_rfl) (by decide) ?_
    refine AllReadyH.cons rfl (fun K15 hK15 => ?_) AllReadyH.nil
    go_simp
    refine hK15.out _ _ bx (fun _ => ?_)
    refine ⟨by kernel_rfl, ?_⟩
    have bx_0 := bx.c0
    have bx_1 := bx.c1
    have bx_2 := bx.c2
    have bx_3 := bx.c3
    have bx_z := bx.frozen
    have bx_l := bx.lt
    have bR_0 := bR.c0
    have bR_1 := bR.c1
    have bR_2 := bR.c2
    have bR_3 := bR.c3
    have bR_z := bR.frozen
    have bR_l := bR.lt
    have bT_0 := bT.c0
    have bT_1 := bT.c1
    have bT_z := bT.frozen
    have bT_l := bT.lt
    go_wp2_with fail
    clear bx_0 bx_1 bx_2 bx_3 bx_z bx_l bR_0 bR_1 bR_2 bR_3 bR_z bR_l bT_0 bT_1 bT_z bT_l
    go_meet
    exact ⟨_, _, _, _, rfl, rfl, rfl, bC, by omega, bT, o5.mono (by omega) (by omega), o6.mono (by omega) (by omega)⟩
  ·go_simp
   have b_4 := (Below.refl w1.heap.size w1).alloc (Nat.le_refl _) (.cells #[.slice none 0 0, .slice none 0 0] 28)
   have bT := Box.new w1 #[.slice none 0 0, .slice none 0 0] 28 rfl
   replace bx := bx.below b_4 bx.lt
   replace bR := bR.below b_4 bR.lt
   replace ht := ht.below b_4 (by omega)
   replace hs := hs.below b_4 (by omega)
   replace hw := hw.below b_4 (by omega)
   have z_5 := b_4.size
   replace bC := bC.trans (b_4.mono (by omega))
   clear b_4
   generalize w1.alloc _ = w4 at *
   generalize w1.heap.size = g4 at *
   refine hK3b.out _ _ bx (fun _ => ?_)
   refine wpAnyH_ready (rs := [5]) (by kernel_rfl) (by decide) ?_
   refine AllReadyH.cons rfl (fun K6 hK6 => ?_) AllReadyH.nil
   go_simp
   refine (specRunning_in m _ _ _ st ls lw w4 ht hs hw (by omega) (by omega) (by omega) HX.out).mono ?_; rintro q_ w7 ⟨rfl, b_7⟩
   replace bx := bx.below b_7 bx.lt
   replace bR := bR.below b_7 bR.lt
   replace bT := bT.below b_7 bT.lt
   replace ht := ht.below b_7 (by omega)
   replace hs := hs.below b_7 (by omega)
   replace hw := hw.below b_7 (by omega)
   have z_8 := b_7.size
   replace bC := bC.trans (b_7.mono (by omega))
   clear b_7
   refine hK6.out _ _ bx (fun _ => ?_)
   refine wpAnyH_ready (rs := [6]) (by kernel_rfl) (by decide) ?_
   refine AllReadyH.cons rfl (fun K9 hK9 => ?_) AllReadyH.nil
   go_simp
   refine (l1Least_any m (Fa.run st ls) w7).mono ?_; rintro q_ w_ ⟨rfl, rfl⟩
   refine hK9.out _ _ bx (fun _ => ?_)
   refine wpAnyH_ready (rs := [7]) (by kernel_rfl) (by decide) ?_
   refine AllReadyH.cons rfl (fun K10 hK10 => ?_) AllReadyH.nil
   go_simp
   refine (specTakeQ_in _ _ ls lw (minI m (Fa.run st ls)) w7 hs hw (by omega) (by omega) HG.out hl2).mono ?_; rintro q_ w11 ⟨v5, v6, rfl, o5, o6, b_11⟩
   replace bx := bx.below b_11 bx.lt
   replace bR := bR.below b_11 bR.lt
   replace bT := bT.below b_11 bT.lt
   replace ht := ht.below b_11 (by omega)
   replace hs := hs.below b_11 (by omega)
   replace hw := hw.below b_11 (by omega)
   have z_12 := b_11.size
   replace bC := bC.trans (b_11.mono (by omega))
   clear b_11
   obtain ⟨A5, n5, d5, rfl, _, _, _⟩ := o5.rd.form
   obtain ⟨A6, n6, d6, rfl, _, _, _⟩ := o6.rd.form
   refine hK10.out _ _ bx (fun _ => ?_)
   have hHeld : (fun (W : World) => Box W (w.heap.size) 30 [.int .i64 m, .slice At nt dt, .slice A0 n0 d0, .slice A1 n1 d1]) w11 := bx
   refine wpAnyH_take (i := 8) (v := .tuple #[.agg #[.slice A5 n5 d5, .slice A6 n6 d6], .int .i64 (Sl.tkW ls (minI m (Fa.run st ls)))]) rfl (by kernel_rfl) (by kernel_rfl) (by kernel_rfl) (fun _ _ _ h => h) (Or.inl ⟨by rfl, by intro w hSw; have hS0 := hSw; have y00 := hS0.c0; have y01 := hS0.c1; have y02 := hS0.c2; have y03 := hS0.c3; go_simp⟩) hHeld ?_
   refine wpAnyH_take (i := 9) (v := .agg #[.slice A5 n5 d5, .slice A6 n6 d6]) rfl (by kernel_rfl) (by kernel_rfl) (by kernel_rfl) (fun _ _ _ h => h) (Or.inl ⟨by rfl, by intro w hSw; have hS0 := hSw; have y00 := hS0.c0; have y01 := hS0.c1; have y02 := hS0.c2; have y03 := hS0.c3; go_simp⟩) hHeld ?_
   refine wpAnyH_take (i := 10) (v := .int .i64 (Sl.tkW ls (minI m (Fa.run st ls)))) rfl (by kernel_rfl) (by kernel_rfl) (by kernel_rfl) (fun _ _ _ h => h) (Or.inl ⟨by rfl, by intro w hSw; have hS0 := hSw; have y00 := hS0.c0; have y01 := hS0.c1; have y02 := hS0.c2; have y03 := hS0.c3; go_simp⟩) hHeld ?_
   clear hHeld
   refine wpAnyH_ready (rs := [12]) (by kernel_rfl) (by decide) ?_
   refine AllReadyH.cons rfl (fun K13 hK13 => ?_) AllReadyH.nil
   have bx_0 := bx.c0
   have bx_1 := bx.c1
   have bx_2 := bx.c2
   have bx_3 := bx.c3
   have bx_z := bx.frozen
   have bx_l := bx.lt
   have bR_0 := bR.c0
   have bR_1 := bR.c1
   have bR_2 := bR.c2
   have bR_3 := bR.c3
   have bR_z := bR.frozen
   have bR_l := bR.lt
   have bT_0 := bT.c0
   have bT_1 := bT.c1
   have bT_z := bT.frozen
   have bT_l := bT.lt
   go_simp
   clear bx_0 bx_1 bx_2 bx_3 bx_z bx_l bR_0 bR_1 bR_2 bR_3 bR_z bR_l bT_0 bT_1 bT_z bT_l
   generalize hwz : World.setCell (World.setCell _ _ _) _ _ = wz_
   obtain rfl : wz_ = setL w11 (g4) 0 [.slice A5 n5 d5, .slice A6 n6 d6] := hwz.symm
   clear hwz
   replace bx := bx.other (b := g4) (by omega) 0 [.slice A5 n5 d5, .slice A6 n6 d6]
   replace bR := bR.other (b := g4) (by omega) 0 [.slice A5 n5 d5, .slice A6 n6 d6]
   replace ht := ht.away (g := g4) (by omega) 0 [.slice A5 n5 d5, .slice A6 n6 d6]
   replace hs := hs.away (g := g4) (by omega) 0 [.slice A5 n5 d5, .slice A6 n6 d6]
   replace hw := hw.away (g := g4) (by omega) 0 [.slice A5 n5 d5, .slice A6 n6 d6]
   replace o5 := o5.box (g := g4) bT (by decide) 0 [.slice A5 n5 d5, .slice A6 n6 d6]
   replace o6 := o6.box (g := g4) bT (by decide) 0 [.slice A5 n5 d5, .slice A6 n6 d6]
   replace bC := setL_below bC [.slice A5 n5 d5, .slice A6 n6 d6] (g4) 0 (by omega)
   have zs_14 : (setL w11 (g4) 0 [.slice A5 n5 d5, .slice A6 n6 d6]).heap.size = w11.heap.size := setL_size _ _ _ _
   replace bT := bT.setAll [.slice A5 n5 d5, .slice A6 n6 d6] rfl
   generalize setL w11 _ 0 _ = w14 at *
   refine hK13.out _ _ bx (fun _ => ?_)
   refine wpAnyH_ready (rs := [13]) (by kernel_rfl) (by decide) ?_
   refine AllReadyH.cons rfl (fun K15 hK15 => ?_) AllReadyH.nil
   go_simp
   refine hK15.out _ _ bx (fun _ => ?_)
   refine ⟨by kernel_rfl, ?_⟩
   have bx_0 := bx.c0
   have bx_1 := bx.c1
   have bx_2 := bx.c2
   have bx_3 := bx.c3
   have bx_z := bx.frozen
   have bx_l := bx.lt
   have bR_0 := bR.c0
   have bR_1 := bR.c1
   have bR_2 := bR.c2
   have bR_3 := bR.c3
   have bR_z := bR.frozen
   have bR_l := bR.lt
   have bT_0 := bT.c0
   have bT_1 := bT.c1
   have bT_z := bT.frozen
   have bT_l := bT.lt
   go_wp2_with fail
   clear bx_0 bx_1 bx_2 bx_3 bx_z bx_l bR_0 bR_1 bR_2 bR_3 bR_z bR_l bT_0 bT_1 bT_z bT_l
   go_meet
   exact ⟨_, _, _, _, rfl, rfl, rfl, bC, by omega, bT, o5.mono (by omega) (by omega), o6.mono (by omega) (by omega)⟩
 case rest =>
  obtain ⟨wx, gT, v1, v2, rfl, rfl, rfl, bC, zT, bT, o5, o6⟩ := hcut
  replace bx := bx.below bC bx.lt
  replace bR := bR.below bC bR.lt
  replace ht := ht.below bC (by omega)
  replace hs := hs.below bC (by omega)
  replace hw := hw.below bC (by omega)
  have z_51 := bC.size
  replace b0 := b0.trans (bC.mono (by omega))
  clear bC
  obtain ⟨A5, n5, d5, rfl, _, _, _⟩ := o5.rd.form
  obtain ⟨A6, n6, d6, rfl, _, _, _⟩ := o6.rd.form
  have zTl := bT.lt
  have bx_0 := bx.c0
  have bx_1 := bx.c1
  have bx_2 := bx.c2
  have bx_3 := bx.c3
  have bx_z := bx.frozen
  have bx_l := bx.lt
  have bR_0 := bR.c0
  have bR_1 := bR.c1
  have bR_2 := bR.c2
  have bR_3 := bR.c3
  have bR_z := bR.frozen
  have bR_l := bR.lt
  have bT_0 := bT.c0
  have bT_1 := bT.c1
  have bT_z := bT.frozen
  have bT_l := bT.lt
  go_upto_region 2 with fail
  clear bx_0 bx_1 bx_2 bx_3 bx_z bx_l bR_0 bR_1 bR_2 bR_3 bR_z bR_l bT_0 bT_1 bT_z bT_l
  go_cut [6] (fun s6 wy => ∃ (ww : World) (gO : Nat) (v3 : Value), ww = wy ∧ s6 = .pointer (some ⟨gO, 0, none⟩) ∧ Below wx.heap.size wx wy ∧ wx.heap.size ≤ gO ∧ Box wy gO 30 [.int .i64 m, v3, .slice A5 n5 d5, .slice A6 n6 d6] ∧ wy.ownsRow wx.heap.size 3 1 v3 st.length (st.flatMap Nm.cells))
  case first =>
    have bD := Below.refl wx.heap.size wx
    have zB2 := b0.size
    refine wp_region_held_drew (S := fun W => Box W (w.heap.size) 30 [.int .i64 m, .slice At nt dt, .slice A0 n0 d0, .slice A1 n1 d1] ∧ Box W (gT) 28 [.slice A5 n5 d5, .slice A6 n6 d6]) (by kernel_rfl) (show (fun (W : World) => Box W (w.heap.size) 30 [.int .i64 m, .slice At nt dt, .slice A0 n0 d0, .slice A1 n1 d1] ∧ Box W (gT) 28 [.slice A5 n5 d5, .slice A6 n6 d6]) wx.drew from ⟨bx, bT⟩) (fun hHeld => ?_)
    refine wpAnyH_take (i := 0) (v := .pointer (some ⟨w.heap.size, 0, none⟩)) rfl (by kernel_rfl) (by kernel_rfl) (by kernel_rfl) (fun _ _ _ h => h) (Or.inl ⟨by rfl, by intro w hSw; obtain ⟨hS0, hS1⟩ := hSw; have y00 := hS0.c0; have y01 := hS0.c1; have y02 := hS0.c2; have y03 := hS0.c3; have y10 := hS1.c0; have y11 := hS1.c1; go_simp⟩) hHeld ?_
    refine wpAnyH_take (i := 1) (v := .int .i64 m) rfl (by kernel_rfl) (by kernel_rfl) (by kernel_rfl) (fun _ _ _ h => h) (Or.inl ⟨by rfl, by intro w hSw; obtain ⟨hS0, hS1⟩ := hSw; have y00 := hS0.c0; have y01 := hS0.c1; have y02 := hS0.c2; have y03 := hS0.c3; have y10 := hS1.c0; have y11 := hS1.c1; go_simp⟩) hHeld ?_
    refine wpAnyH_take (i := 2) (v := .pointer (some ⟨w.heap.size, 1, none⟩)) rfl (by kernel_rfl) (by kernel_rfl) (by kernel_rfl) (fun _ _ _ h => h) (Or.inl ⟨by rfl, by intro w hSw; obtain ⟨hS0, hS1⟩ := hSw; have y00 := hS0.c0; have y01 := hS0.c1; have y02 := hS0.c2; have y03 := hS0.c3; have y10 := hS1.c0; have y11 := hS1.c1; go_simp⟩) hHeld ?_
    refine wpAnyH_take (i := 3) (v := .slice At nt dt) rfl (by kernel_rfl) (by kernel_rfl) (by kernel_rfl) (fun _ _ _ h => h) (Or.inl ⟨by rfl, by intro w hSw; obtain ⟨hS0, hS1⟩ := hSw; have y00 := hS0.c0; have y01 := hS0.c1; have y02 := hS0.c2; have y03 := hS0.c3; have y10 := hS1.c0; have y11 := hS1.c1; go_simp⟩) hHeld ?_
    refine wpAnyH_take (i := 5) (v := .agg #[.slice A5 n5 d5, .slice A6 n6 d6]) rfl (by kernel_rfl) (by kernel_rfl) (by kernel_rfl) (fun _ _ _ h => h) (Or.inl ⟨by rfl, by intro w hSw; obtain ⟨hS0, hS1⟩ := hSw; have y00 := hS0.c0; have y01 := hS0.c1; have y02 := hS0.c2; have y03 := hS0.c3; have y10 := hS1.c0; have y11 := hS1.c1; go_simp⟩) hHeld ?_
    clear hHeld
    refine held_gen (F := fun W' => Below wx.heap.size wx W') (Below.refl wx.heap.size wx).drew ?_
    rintro w52 b_52
    replace bx := bx.below b_52 bx.lt
    replace bR := bR.below b_52 bR.lt
    replace bT := bT.below b_52 bT.lt
    replace ht := ht.below b_52 (by omega)
    replace hs := hs.below b_52 (by omega)
    replace hw := hw.below b_52 (by omega)
    replace o5 := o5.below b_52 (by omega)
    replace o6 := o6.below b_52 (by omega)
    have z_53 := b_52.size
    replace bD := bD.trans (b_52.mono (by omega))
    clear b_52
    refine wpAnyH_ready (rs := [4, 7]) (by kernel_rfl) (by decide) ?_
    refine AllReadyH.cons rfl (fun K54a hK54a => ?_) (AllReadyH.cons rfl (fun K54b hK54b => ?_) AllReadyH.nil)
    ·go_simp
     refine (l1Own_own wx.heap.size _ st w52 ht (by omega) (by omega) hl).mono ?_; rintro q_ w55 ⟨v3, rfl, o3, b_55⟩
     replace bx := bx.below b_55 bx.lt
     replace bR := bR.below b_55 bR.lt
     replace bT := bT.below b_55 bT.lt
     replace ht := ht.below b_55 (by omega)
     replace hs := hs.below b_55 (by omega)
     replace hw := hw.below b_55 (by omega)
     replace o5 := o5.below b_55 (by omega)
     replace o6 := o6.below b_55 (by omega)
     have z_56 := b_55.size
     replace bD := bD.trans (b_55.mono (by omega))
     clear b_55
     obtain ⟨A3, n3, d3, rfl, _, _, _⟩ := (Ow.of_own Nm.cells_len o3 rfl rfl).rd.form
     refine hK54a.out _ _ ⟨bx, bT⟩ (fun _ => ?_)
     have hHeld : (fun (W : World) => Box W (w.heap.size) 30 [.int .i64 m, .slice At nt dt, .slice A0 n0 d0, .slice A1 n1 d1] ∧ Box W (gT) 28 [.slice A5 n5 d5, .slice A6 n6 d6]) w55 := ⟨bx, bT⟩
     refine wpAnyH_take (i := 6) (v := .agg #[.int .i64 m, .slice A3 n3 d3, .slice A5 n5 d5, .slice A6 n6 d6]) rfl (by kernel_rfl) (by kernel_rfl) (by kernel_rfl) (fun _ _ _ h => h) (Or.inl ⟨by rfl, by intro w hSw; obtain ⟨hS0, hS1⟩ := hSw; have y00 := hS0.c0; have y01 := hS0.c1; have y02 := hS0.c2; have y03 := hS0.c3; have y10 := hS1.c0; have y11 := hS1.c1; go_simp⟩) hHeld ?_
     clear hHeld
     refine wpAnyH_ready (rs := [7]) (by kernel_rfl) (by decide) ?_
     refine AllReadyH.cons rfl (fun K57 hK57 => ?_) AllReadyH.nil
     go_simp
     have b_58 := (Below.refl w55.heap.size w55).alloc (Nat.le_refl _) (.cells #[.int .i64 0, .slice none 0 0, .slice none 0 0, .slice none 0 0] 30)
     have bO := Box.new w55 #[.int .i64 0, .slice none 0 0, .slice none 0 0, .slice none 0 0] 30 rfl
     replace bx := bx.below b_58 bx.lt
     replace bR := bR.below b_58 bR.lt
     replace bT := bT.below b_58 bT.lt
     replace ht := ht.below b_58 (by omega)
     replace hs := hs.below b_58 (by omega)
     replace hw := hw.below b_58 (by omega)
     replace o5 := o5.below b_58 (by omega)
     replace o6 := o6.below b_58 (by omega)
     replace o3 := own_below o3 b_58
     have z_59 := b_58.size
     replace bD := bD.trans (b_58.mono (by omega))
     clear b_58
     generalize w55.alloc _ = w58 at *
     generalize w55.heap.size = g58 at *
     refine hK57.out _ _ ⟨bx, bT⟩ (fun _ => ?_)
     refine wpAnyH_ready (rs := [8]) (by kernel_rfl) (by decide) ?_
     refine AllReadyH.cons rfl (fun K60 hK60 => ?_) AllReadyH.nil
     have bx_0 := bx.c0
     have bx_1 := bx.c1
     have bx_2 := bx.c2
     have bx_3 := bx.c3
     have bx_z := bx.frozen
     have bx_l := bx.lt
     have bR_0 := bR.c0
     have bR_1 := bR.c1
     have bR_2 := bR.c2
     have bR_3 := bR.c3
     have bR_z := bR.frozen
     have bR_l := bR.lt
     have bT_0 := bT.c0
     have bT_1 := bT.c1
     have bT_z := bT.frozen
     have bT_l := bT.lt
     have bO_0 := bO.c0
     have bO_1 := bO.c1
     have bO_2 := bO.c2
     have bO_3 := bO.c3
     have bO_z := bO.frozen
     have bO_l := bO.lt
     go_simp
     clear bx_0 bx_1 bx_2 bx_3 bx_z bx_l bR_0 bR_1 bR_2 bR_3 bR_z bR_l bT_0 bT_1 bT_z bT_l bO_0 bO_1 bO_2 bO_3 bO_z bO_l
     generalize hwz : World.setCell (World.setCell (World.setCell (World.setCell _ _ _) _ _) _ _) _ _ = wz_
     obtain rfl : wz_ = setL w58 (g58) 0 [.int .i64 m, .slice A3 n3 d3, .slice A5 n5 d5, .slice A6 n6 d6] := hwz.symm
     clear hwz
     replace bx := bx.other (b := g58) (by omega) 0 [.int .i64 m, .slice A3 n3 d3, .slice A5 n5 d5, .slice A6 n6 d6]
     replace bR := bR.other (b := g58) (by omega) 0 [.int .i64 m, .slice A3 n3 d3, .slice A5 n5 d5, .slice A6 n6 d6]
     replace bT := bT.other (b := g58) (by omega) 0 [.int .i64 m, .slice A3 n3 d3, .slice A5 n5 d5, .slice A6 n6 d6]
     replace ht := ht.away (g := g58) (by omega) 0 [.int .i64 m, .slice A3 n3 d3, .slice A5 n5 d5, .slice A6 n6 d6]
     replace hs := hs.away (g := g58) (by omega) 0 [.int .i64 m, .slice A3 n3 d3, .slice A5 n5 d5, .slice A6 n6 d6]
     replace hw := hw.away (g := g58) (by omega) 0 [.int .i64 m, .slice A3 n3 d3, .slice A5 n5 d5, .slice A6 n6 d6]
     replace o5 := o5.box (g := g58) bO (by decide) 0 [.int .i64 m, .slice A3 n3 d3, .slice A5 n5 d5, .slice A6 n6 d6]
     replace o6 := o6.box (g := g58) bO (by decide) 0 [.int .i64 m, .slice A3 n3 d3, .slice A5 n5 d5, .slice A6 n6 d6]
     replace o3 := own_box o3 bO (by decide) 0 [.int .i64 m, .slice A3 n3 d3, .slice A5 n5 d5, .slice A6 n6 d6]
     replace bD := setL_below bD [.int .i64 m, .slice A3 n3 d3, .slice A5 n5 d5, .slice A6 n6 d6] (g58) 0 (by omega)
     have zs_61 : (setL w58 (g58) 0 [.int .i64 m, .slice A3 n3 d3, .slice A5 n5 d5, .slice A6 n6 d6]).heap.size = w58.heap.size := setL_size _ _ _ _
     replace bO := bO.setAll [.int .i64 m, .slice A3 n3 d3, .slice A5 n5 d5, .slice A6 n6 d6] rfl
     generalize setL w58 _ 0 _ = w61 at *
     refine hK60.out _ _ ⟨bx, bT⟩ (fun _ => ?_)
     refine ⟨by kernel_rfl, ?_⟩
     have bx_0 := bx.c0
     have bx_1 := bx.c1
     have bx_2 := bx.c2
     have bx_3 := bx.c3
     have bx_z := bx.frozen
     have bx_l := bx.lt
     have bR_0 := bR.c0
     have bR_1 := bR.c1
     have bR_2 := bR.c2
     have bR_3 := bR.c3
     have bR_z := bR.frozen
     have bR_l := bR.lt
     have bT_0 := bT.c0
     have bT_1 := bT.c1
     have bT_z := bT.frozen
     have bT_l := bT.lt
     have bO_0 := bO.c0
     have bO_1 := bO.c1
     have bO_2 := bO.c2
     have bO_3 := bO.c3
     have bO_z := bO.frozen
     have bO_l := bO.lt
     go_wp2_with fail
     clear bx_0 bx_1 bx_2 bx_3 bx_z bx_l bR_0 bR_1 bR_2 bR_3 bR_z bR_l bT_0 bT_1 bT_z bT_l bO_0 bO_1 bO_2 bO_3 bO_z bO_l
     go_meet
     exact ⟨_, _, _, rfl, rfl, bD, by omega, bO, o3⟩
    ·go_simp
     have b_55 := (Below.refl w52.heap.size w52).alloc (Nat.le_refl _) (.cells #[.int .i64 0, .slice none 0 0, .slice none 0 0, .slice none 0 0] 30)
     have bO := Box.new w52 #[.int .i64 0, .slice none 0 0, .slice none 0 0, .slice none 0 0] 30 rfl
     replace bx := bx.below b_55 bx.lt
     replace bR := bR.below b_55 bR.lt
     replace bT := bT.below b_55 bT.lt
     replace ht := ht.below b_55 (by omega)
     replace hs := hs.below b_55 (by omega)
     replace hw := hw.below b_55 (by omega)
     replace o5 := o5.below b_55 (by omega)
     replace o6 := o6.below b_55 (by omega)
     have z_56 := b_55.size
     replace bD := bD.trans (b_55.mono (by omega))
     clear b_55
     generalize w52.alloc _ = w55 at *
     generalize w52.heap.size = g55 at *
     refine hK54b.out _ _ ⟨bx, bT⟩ (fun _ => ?_)
     refine wpAnyH_ready (rs := [4]) (by kernel_rfl) (by decide) ?_
     refine AllReadyH.cons rfl (fun K57 hK57 => ?_) AllReadyH.nil
     go_simp
     refine (l1Own_own wx.heap.size _ st w55 ht (by omega) (by omega) hl).mono ?_; rintro q_ w58 ⟨v3, rfl, o3, b_58⟩
     replace bx := bx.below b_58 bx.lt
     replace bR := bR.below b_58 bR.lt
     replace bT := bT.below b_58 bT.lt
     replace bO := bO.below b_58 bO.lt
     replace ht := ht.below b_58 (by omega)
     replace hs := hs.below b_58 (by omega)
     replace hw := hw.below b_58 (by omega)
     replace o5 := o5.below b_58 (by omega)
     replace o6 := o6.below b_58 (by omega)
     have z_59 := b_58.size
     replace bD := bD.trans (b_58.mono (by omega))
     clear b_58
     obtain ⟨A3, n3, d3, rfl, _, _, _⟩ := (Ow.of_own Nm.cells_len o3 rfl rfl).rd.form
     refine hK57.out _ _ ⟨bx, bT⟩ (fun _ => ?_)
     have hHeld : (fun (W : World) => Box W (w.heap.size) 30 [.int .i64 m, .slice At nt dt, .slice A0 n0 d0, .slice A1 n1 d1] ∧ Box W (gT) 28 [.slice A5 n5 d5, .slice A6 n6 d6]) w58 := ⟨bx, bT⟩
     refine wpAnyH_take (i := 6) (v := .agg #[.int .i64 m, .slice A3 n3 d3, .slice A5 n5 d5, .slice A6 n6 d6]) rfl (by kernel_rfl) (by kernel_rfl) (by kernel_rfl) (fun _ _ _ h => h) (Or.inl ⟨by rfl, by intro w hSw; obtain ⟨hS0, hS1⟩ := hSw; have y00 := hS0.c0; have y01 := hS0.c1; have y02 := hS0.c2; have y03 := hS0.c3; have y10 := hS1.c0; have y11 := hS1.c1; go_simp⟩) hHeld ?_
     clear hHeld
     refine wpAnyH_ready (rs := [8]) (by kernel_rfl) (by decide) ?_
     refine AllReadyH.cons rfl (fun K60 hK60 => ?_) AllReadyH.nil
     have bx_0 := bx.c0
     have bx_1 := bx.c1
     have bx_2 := bx.c2
     have bx_3 := bx.c3
     have bx_z := bx.frozen
     have bx_l := bx.lt
     have bR_0 := bR.c0
     have bR_1 := bR.c1
     have bR_2 := bR.c2
     have bR_3 := bR.c3
     have bR_z := bR.frozen
     have bR_l := bR.lt
     have bT_0 := bT.c0
     have bT_1 := bT.c1
     have bT_z := bT.frozen
     have bT_l := bT.lt
     have bO_0 := bO.c0
     have bO_1 := bO.c1
     have bO_2 := bO.c2
     have bO_3 := bO.c3
     have bO_z := bO.frozen
     have bO_l := bO.lt
     go_simp
     clear bx_0 bx_1 bx_2 bx_3 bx_z bx_l bR_0 bR_1 bR_2 bR_3 bR_z bR_l bT_0 bT_1 bT_z bT_l bO_0 bO_1 bO_2 bO_3 bO_z bO_l
     generalize hwz : World.setCell (World.setCell (World.setCell (World.setCell _ _ _) _ _) _ _) _ _ = wz_
     obtain rfl : wz_ = setL w58 (g55) 0 [.int .i64 m, .slice A3 n3 d3, .slice A5 n5 d5, .slice A6 n6 d6] := hwz.symm
     clear hwz
     replace bx := bx.other (b := g55) (by omega) 0 [.int .i64 m, .slice A3 n3 d3, .slice A5 n5 d5, .slice A6 n6 d6]
     replace bR := bR.other (b := g55) (by omega) 0 [.int .i64 m, .slice A3 n3 d3, .slice A5 n5 d5, .slice A6 n6 d6]
     replace bT := bT.other (b := g55) (by omega) 0 [.int .i64 m, .slice A3 n3 d3, .slice A5 n5 d5, .slice A6 n6 d6]
     replace ht := ht.away (g := g55) (by omega) 0 [.int .i64 m, .slice A3 n3 d3, .slice A5 n5 d5, .slice A6 n6 d6]
     replace hs := hs.away (g := g55) (by omega) 0 [.int .i64 m, .slice A3 n3 d3, .slice A5 n5 d5, .slice A6 n6 d6]
     replace hw := hw.away (g := g55) (by omega) 0 [.int .i64 m, .slice A3 n3 d3, .slice A5 n5 d5, .slice A6 n6 d6]
     replace o5 := o5.box (g := g55) bO (by decide) 0 [.int .i64 m, .slice A3 n3 d3, .slice A5 n5 d5, .slice A6 n6 d6]
     replace o6 := o6.box (g := g55) bO (by decide) 0 [.int .i64 m, .slice A3 n3 d3, .slice A5 n5 d5, .slice A6 n6 d6]
     replace o3 := own_box o3 bO (by decide) 0 [.int .i64 m, .slice A3 n3 d3, .slice A5 n5 d5, .slice A6 n6 d6]
     replace bD := setL_below bD [.int .i64 m, .slice A3 n3 d3, .slice A5 n5 d5, .slice A6 n6 d6] (g55) 0 (by omega)
     have zs_61 : (setL w58 (g55) 0 [.int .i64 m, .slice A3 n3 d3, .slice A5 n5 d5, .slice A6 n6 d6]).heap.size = w58.heap.size := setL_size _ _ _ _
     replace bO := bO.setAll [.int .i64 m, .slice A3 n3 d3, .slice A5 n5 d5, .slice A6 n6 d6] rfl
     generalize setL w58 _ 0 _ = w61 at *
     refine hK60.out _ _ ⟨bx, bT⟩ (fun _ => ?_)
     refine ⟨by kernel_rfl, ?_⟩
     have bx_0 := bx.c0
     have bx_1 := bx.c1
     have bx_2 := bx.c2
     have bx_3 := bx.c3
     have bx_z := bx.frozen
     have bx_l := bx.lt
     have bR_0 := bR.c0
     have bR_1 := bR.c1
     have bR_2 := bR.c2
     have bR_3 := bR.c3
     have bR_z := bR.frozen
     have bR_l := bR.lt
     have bT_0 := bT.c0
     have bT_1 := bT.c1
     have bT_z := bT.frozen
     have bT_l := bT.lt
     have bO_0 := bO.c0
     have bO_1 := bO.c1
     have bO_2 := bO.c2
     have bO_3 := bO.c3
     have bO_z := bO.frozen
     have bO_l := bO.lt
     go_wp2_with fail
     clear bx_0 bx_1 bx_2 bx_3 bx_z bx_l bR_0 bR_1 bR_2 bR_3 bR_z bR_l bT_0 bT_1 bT_z bT_l bO_0 bO_1 bO_2 bO_3 bO_z bO_l
     go_meet
     exact ⟨_, _, _, rfl, rfl, bD, by omega, bO, o3⟩
  case rest =>
    obtain ⟨wy, gO, v3, rfl, rfl, bD, zO, bO, o3⟩ := hcut
    replace bx := bx.below bD bx.lt
    replace bR := bR.below bD bR.lt
    replace bT := bT.below bD bT.lt
    replace ht := ht.below bD (by omega)
    replace hs := hs.below bD (by omega)
    replace hw := hw.below bD (by omega)
    replace o5 := o5.below bD (by omega)
    replace o6 := o6.below bD (by omega)
    have z_101 := bD.size
    replace b0 := b0.trans (bD.mono (by omega))
    clear bD
    obtain ⟨A3, n3, d3, rfl, _, _, _⟩ := (Ow.of_own Nm.cells_len o3 rfl rfl).rd.form
    have zOl := bO.lt
    cases hk : Sl.tkOk ls (minI m (Fa.run st ls))
    ·have HF := Lib.hid (show Fa.tkT st ls (minI m (Fa.run st ls)) = st from by simp [Fa.tkT, hk])
     have hd : decide (0 ≤ Sl.tkW ls (minI m (Fa.run st ls))) = false := by simp [Sl.tkW, hk]
     clear hk
     have oT := Ow.of_own Nm.cells_len o3 (l := st) rfl rfl
     have bx_0 := bx.c0
     have bx_1 := bx.c1
     have bx_2 := bx.c2
     have bx_3 := bx.c3
     have bx_z := bx.frozen
     have bx_l := bx.lt
     have bR_0 := bR.c0
     have bR_1 := bR.c1
     have bR_2 := bR.c2
     have bR_3 := bR.c3
     have bR_z := bR.frozen
     have bR_l := bR.lt
     have bT_0 := bT.c0
     have bT_1 := bT.c1
     have bT_z := bT.frozen
     have bT_l := bT.lt
     have bO_0 := bO.c0
     have bO_1 := bO.c1
     have bO_2 := bO.c2
     have bO_3 := bO.c3
     have bO_z := bO.frozen
     have bO_l := bO.lt
     go_wp2_with fail
     clear bx_0 bx_1 bx_2 bx_3 bx_z bx_l bR_0 bR_1 bR_2 bR_3 bR_z bR_l bT_0 bT_1 bT_z bT_l bO_0 bO_1 bO_2 bO_3 bO_z bO_l
     generalize hwz : World.setCell (World.setCell (World.setCell (World.setCell _ _ _) _ _) _ _) _ _ = wz_
     obtain rfl : wz_ = setL wy (w.heap.size + 1) 0 [.int .i64 m, .slice A3 n3 d3, .slice A5 n5 d5, .slice A6 n6 d6] := hwz.symm
     clear hwz
     replace bx := bx.other (b := w.heap.size + 1) (by omega) 0 [.int .i64 m, .slice A3 n3 d3, .slice A5 n5 d5, .slice A6 n6 d6]
     replace bT := bT.other (b := w.heap.size + 1) (by omega) 0 [.int .i64 m, .slice A3 n3 d3, .slice A5 n5 d5, .slice A6 n6 d6]
     replace bO := bO.other (b := w.heap.size + 1) (by omega) 0 [.int .i64 m, .slice A3 n3 d3, .slice A5 n5 d5, .slice A6 n6 d6]
     replace ht := ht.away (g := w.heap.size + 1) (by omega) 0 [.int .i64 m, .slice A3 n3 d3, .slice A5 n5 d5, .slice A6 n6 d6]
     replace hs := hs.away (g := w.heap.size + 1) (by omega) 0 [.int .i64 m, .slice A3 n3 d3, .slice A5 n5 d5, .slice A6 n6 d6]
     replace hw := hw.away (g := w.heap.size + 1) (by omega) 0 [.int .i64 m, .slice A3 n3 d3, .slice A5 n5 d5, .slice A6 n6 d6]
     replace o5 := o5.box (g := w.heap.size + 1) bR (by decide) 0 [.int .i64 m, .slice A3 n3 d3, .slice A5 n5 d5, .slice A6 n6 d6]
     replace o6 := o6.box (g := w.heap.size + 1) bR (by decide) 0 [.int .i64 m, .slice A3 n3 d3, .slice A5 n5 d5, .slice A6 n6 d6]
     replace oT := oT.box (g := w.heap.size + 1) bR (by decide) 0 [.int .i64 m, .slice A3 n3 d3, .slice A5 n5 d5, .slice A6 n6 d6]
     replace b0 := setL_below b0 [.int .i64 m, .slice A3 n3 d3, .slice A5 n5 d5, .slice A6 n6 d6] (w.heap.size + 1) 0 (by omega)
     have zs_102 : (setL wy (w.heap.size + 1) 0 [.int .i64 m, .slice A3 n3 d3, .slice A5 n5 d5, .slice A6 n6 d6]).heap.size = wy.heap.size := setL_size _ _ _ _
     replace bR := bR.setAll [.int .i64 m, .slice A3 n3 d3, .slice A5 n5 d5, .slice A6 n6 d6] rfl
     generalize setL wy _ 0 _ = w102 at *
     have u0_ := bR.c0
     have u1_ := bR.c1
     have u2_ := bR.c2
     have u3_ := bR.c3
     refine bodyPost_ret (by simp only [results, Tryz.results36]; simp [go_sem, u0_, u1_, u2_, u3_]; rfl) rfl ?_
     exact ⟨_, _, _, rfl, by rw [HF.out]; exact oT.mono (by omega) (by omega), o5.mono (by omega) (by omega), o6.mono (by omega) (by omega), b0⟩
    ·have HF := Lib.hid (show Fa.tkT st ls (minI m (Fa.run st ls)) = st ++ [Sl.tkW ls (minI m (Fa.run st ls))] from by simp [Fa.tkT, Sl.tkW, hk])
     have hd : decide (0 ≤ Sl.tkW ls (minI m (Fa.run st ls))) = true := decide_eq_true (by have := Sl.tk_irq HG.out hk; simpa [Sl.tkW, hk] using this)
     clear hk
     have bL := (Below.refl wy.heap.size wy).alloc (Nat.le_refl _) (.cells #[.int .i64 (Sl.tkW ls (minI m (Fa.run st ls)))] 3)
     have zL : (wy.alloc (.cells #[.int .i64 (Sl.tkW ls (minI m (Fa.run st ls)))] 3)).heap.size = wy.heap.size + 1 := by simp
     have o3L := o3.alloc (.cells #[.int .i64 (Sl.tkW ls (minI m (Fa.run st ls)))] 3)
     have bOL := bO.below bL bO.lt
     have bRL := bR.below bL bR.lt
     have o5L := o5.below bL (by omega)
     have o6L := o6.below bL (by omega)
     have b0L := b0.trans (bL.mono (by omega))
     have bx_0 := bx.c0
     have bx_1 := bx.c1
     have bx_2 := bx.c2
     have bx_3 := bx.c3
     have bx_z := bx.frozen
     have bx_l := bx.lt
     have bR_0 := bR.c0
     have bR_1 := bR.c1
     have bR_2 := bR.c2
     have bR_3 := bR.c3
     have bR_z := bR.frozen
     have bR_l := bR.lt
     have bT_0 := bT.c0
     have bT_1 := bT.c1
     have bT_z := bT.frozen
     have bT_l := bT.lt
     have bO_0 := bO.c0
     have bO_1 := bO.c1
     have bO_2 := bO.c2
     have bO_3 := bO.c3
     have bO_z := bO.frozen
     have bO_l := bO.lt
     go_upto_region 5 with (at_builtin; (refine Nm.app_one rfl _ _ rfl wx.heap.size _ st.length _ rfl o3L (g := wy.heap.size) (c := 1) (Sl.tkW ls (minI m (Fa.run st ls))) rfl ?hc0 (by omega) (by omega) ?_); (rotate_left); (intro v4 w4 o4 g4); (have oT := Ow.of_own Nm.cells_len o4 (l := st ++ [(Sl.tkW ls (minI m (Fa.run st ls)))]) (by simp) (by simp)); (obtain ⟨A4, n4, d4, rfl, _, _, _⟩ := oT.rd.form); (replace bO := bOL.grown_own o3L g4 (by decide)); (replace bR := bRL.grown_own o3L g4 (by decide)); (replace o5 := o5L.grown_own o3L g4 (by decide)); (replace o6 := o6L.grown_own o3L g4 (by decide)); (have z4 := g4.size); (replace b0 := b0L.grown g4 (by omega) (fun j hj => by have := own_ge o3L j hj; omega)); (clear bO_0 bO_1 bO_2 bO_3 bO_z bR_0 bR_1 bR_2 bR_3 bR_z bx_0 bx_1 bx_2 bx_3 bx_z bx_l bx bT_0 bT_1 bT_z bT_l bT bO_l bR_l o3 o3L bOL bRL o5L o6L b0L ht hs hw bL g4 o4); (have bO_0 := bO.c0); (have bO_1 := bO.c1); (have bO_2 := bO.c2); (have bO_3 := bO.c3); (have bO_z := bO.frozen))
     case hc0 => intro j u hu; simpa [Nm.cells] using hu
     clear bO_0 bO_1 bO_2 bO_3 bO_z
     generalize hwz : World.setCell _ _ _ = wz_
     obtain rfl : wz_ = setL w4 (gO) 1 [.slice A4 n4 d4] := hwz.symm
     clear hwz
     replace bR := bR.other (b := gO) (by omega) 1 [.slice A4 n4 d4]
     replace o5 := o5.box (g := gO) bO (by decide) 1 [.slice A4 n4 d4]
     replace o6 := o6.box (g := gO) bO (by decide) 1 [.slice A4 n4 d4]
     replace oT := oT.box (g := gO) bO (by decide) 1 [.slice A4 n4 d4]
     replace b0 := setL_below b0 [.slice A4 n4 d4] (gO) 1 (by omega)
     have zs_102 : (setL w4 (gO) 1 [.slice A4 n4 d4]).heap.size = w4.heap.size := setL_size _ _ _ _
     replace bO := bO.set1 (j := 1) (.slice A4 n4 d4) (by simp)
     generalize setL w4 _ 1 _ = w102 at *
     have bR_0 := bR.c0
     have bR_1 := bR.c1
     have bR_2 := bR.c2
     have bR_3 := bR.c3
     have bR_z := bR.frozen
     have bR_l := bR.lt
     have bO_0 := bO.c0
     have bO_1 := bO.c1
     have bO_2 := bO.c2
     have bO_3 := bO.c3
     have bO_z := bO.frozen
     have bO_l := bO.lt
     go_wp2_with fail
     clear bR_0 bR_1 bR_2 bR_3 bR_z bR_l bO_0 bO_1 bO_2 bO_3 bO_z bO_l
     generalize hwz : World.setCell (World.setCell (World.setCell (World.setCell _ _ _) _ _) _ _) _ _ = wz_
     obtain rfl : wz_ = setL w102 (w.heap.size + 1) 0 [.int .i64 m, .slice A4 n4 d4, .slice A5 n5 d5, .slice A6 n6 d6] := hwz.symm
     clear hwz
     replace bO := bO.other (b := w.heap.size + 1) (by omega) 0 [.int .i64 m, .slice A4 n4 d4, .slice A5 n5 d5, .slice A6 n6 d6]
     replace o5 := o5.box (g := w.heap.size + 1) bR (by decide) 0 [.int .i64 m, .slice A4 n4 d4, .slice A5 n5 d5, .slice A6 n6 d6]
     replace o6 := o6.box (g := w.heap.size + 1) bR (by decide) 0 [.int .i64 m, .slice A4 n4 d4, .slice A5 n5 d5, .slice A6 n6 d6]
     replace oT := oT.box (g := w.heap.size + 1) bR (by decide) 0 [.int .i64 m, .slice A4 n4 d4, .slice A5 n5 d5, .slice A6 n6 d6]
     replace b0 := setL_below b0 [.int .i64 m, .slice A4 n4 d4, .slice A5 n5 d5, .slice A6 n6 d6] (w.heap.size + 1) 0 (by omega)
     have zs_103 : (setL w102 (w.heap.size + 1) 0 [.int .i64 m, .slice A4 n4 d4, .slice A5 n5 d5, .slice A6 n6 d6]).heap.size = w102.heap.size := setL_size _ _ _ _
     replace bR := bR.setAll [.int .i64 m, .slice A4 n4 d4, .slice A5 n5 d5, .slice A6 n6 d6] rfl
     generalize setL w102 _ 0 _ = w103 at *
     have u0_ := bR.c0
     have u1_ := bR.c1
     have u2_ := bR.c2
     have u3_ := bR.c3
     refine bodyPost_ret (by simp only [results, Tryz.results36]; simp [go_sem, u0_, u1_, u2_, u3_]; rfl) rfl ?_
     exact ⟨_, _, _, rfl, by rw [HF.out]; exact oT.mono (by omega) (by omega), o5.mono (by omega) (by omega), o6.mono (by omega) (by omega), b0⟩

end Go.Proofs.YtndfmkbpdoohfaaGreat
