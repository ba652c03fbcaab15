/- Lemmas and walks that the last text of this claim leans on, part 4. No condition. -/
import Derived.Test.YtfpaafmckeeecaaGreatMcQuC
/- What 'best' finds among slots, when a queue is settled, and that taking keeps it so, in plain terms. No condition. -/
namespace Go.Proofs.YtfpaafmckeeecaaGreat

theorem Sl.bt_trans {most : Bool} {a b c : Sl} (h : Sl.bt most a b = true) (k : Sl.bt most b c = true) : Sl.bt most a c = true := by
  cases most
  · simp [Sl.bt] at *
    exact Wt.lt_trans k h
  · simp [Sl.bt] at *
    exact Wt.lt_trans h k
theorem Sl.bt_irrefl (most : Bool) (a : Sl) : Sl.bt most a a = false := by cases most <;> simp [Sl.bt, Wt.lt_irrefl]
theorem Sl.best_none (most : Bool) (l : List Sl) : ∀ k : Nat, k ≤ l.length → Sl.best most l k = -1 → ∀ (j : Nat) (u : Sl), j < k → l[j]? = some u → ¬ u.state = 1
  | 0, _, _, j, u, hj, _ => absurd hj (by omega)
  | k + 1, hk, h, j, u, hj, hu => by
    obtain ⟨s, hs⟩ : ∃ s, l[k]? = some s := ⟨_, List.getElem?_eq_getElem (show k < l.length by omega)⟩
    rw [Sl.best_succ hs] at h
    by_cases hb : Sl.bestIf most l (Sl.best most l k) s = true
    · rw [if_pos hb] at h; omega
    · rw [if_neg hb] at h
      have ih := Sl.best_none most l k (by omega) h
      rcases Nat.lt_or_ge j k with hjk | hjk
      · exact ih j u hjk hu
      · obtain rfl : j = k := by omega
        rw [hs] at hu
        injection hu with hu
        subst hu
        intro e
        apply hb
        simp [Sl.bestIf, e, h]
theorem Sl.best_top (most : Bool) (l : List Sl) : ∀ k : Nat, k ≤ l.length → ∀ (i : Nat) (s : Sl), Sl.best most l k = i → l[i]? = some s → ∀ (j : Nat) (u : Sl), j < k → l[j]? = some u → u.state = 1 → Sl.bt most u s = false
  | 0, _, _, _, _, _, j, u, hj, _, _ => absurd hj (by omega)
  | k + 1, hk, i, x, h, hx, j, u, hj, hu, hst => by
    obtain ⟨s, hs⟩ : ∃ s, l[k]? = some s := ⟨_, List.getElem?_eq_getElem (show k < l.length by omega)⟩
    rw [Sl.best_succ hs] at h
    have ih := Sl.best_top most l k (by omega)
    by_cases hb : Sl.bestIf most l (Sl.best most l k) s = true
    · rw [if_pos hb] at h
      obtain rfl : i = k := by omega
      rw [hs] at hx
      injection hx with hx
      subst hx
      rcases Nat.lt_or_ge j i with hji | hji
      · rcases Sl.best_bd most l i (by omega) with h1 | ⟨j1, u1, h1, h2, h3, h4⟩
        · exact absurd hst (Sl.best_none most l i (by omega) h1 j u hji hu)
        · have h5 := ih j1 u1 h1 h3 j u hji hu hst
          simp only [Sl.bestIf, h1, Bool.and_eq_true, Bool.or_eq_true, decide_eq_true_eq] at hb
          obtain ⟨_, h6 | h6⟩ := hb
          · omega
          · rw [show l.getD (j1 : Int).toNat default = u1 from by simp [h3]] at h6
            cases h7 : Sl.bt most u s
            · rfl
            · rw [Sl.bt_trans h7 h6] at h5; exact absurd h5 (by decide)
      · obtain rfl : j = i := by omega
        rw [hs] at hu
        injection hu with hu
        subst hu
        exact Sl.bt_irrefl most s
    · rw [if_neg hb] at h
      rcases Nat.lt_or_ge j k with hjk | hjk
      · exact ih i x h hx j u hjk hu hst
      · obtain rfl : j = k := by omega
        rw [hs] at hu
        injection hu with hu
        subst hu
        cases h7 : Sl.bt most s x
        · rfl
        · exfalso
          apply hb
          simp [Sl.bestIf, hst, h, hx, h7]
theorem Sl.bn_none {l : List Sl} (h : Sl.bn l = -1) {s : Sl} (hs : s ∈ l) : ¬ s.state = 1 := by
  obtain ⟨j, hj⟩ := List.getElem?_of_mem hs
  exact Sl.best_none false l l.length (Nat.le_refl _) h j s (List.getElem?_eq_some_iff.1 hj).1 hj
theorem Sl.bx_none {l : List Sl} (h : Sl.bx l = -1) {s : Sl} (hs : s ∈ l) : ¬ s.state = 1 := by
  obtain ⟨j, hj⟩ := List.getElem?_of_mem hs
  exact Sl.best_none true l l.length (Nat.le_refl _) h j s (List.getElem?_eq_some_iff.1 hj).1 hj
theorem Sl.bn_top {l : List Sl} {k : Nat} {s u : Sl} (h : Sl.bn l = k) (hs : l[k]? = some s) (hu : u ∈ l) (h1 : u.state = 1) : s.wt.lt u.wt = false := by
  obtain ⟨j, hj⟩ := List.getElem?_of_mem hu
  have := Sl.best_top false l l.length (Nat.le_refl _) k s h hs j u (List.getElem?_eq_some_iff.1 hj).1 hj h1
  simpa [Sl.bt] using this
theorem Sl.bx_top {l : List Sl} {k : Nat} {s u : Sl} (h : Sl.bx l = k) (hs : l[k]? = some s) (hu : u ∈ l) (h1 : u.state = 1) : u.wt.lt s.wt = false := by
  obtain ⟨j, hj⟩ := List.getElem?_of_mem hu
  have := Sl.best_top true l l.length (Nat.le_refl _) k s h hs j u (List.getElem?_eq_some_iff.1 hj).1 hj h1
  simpa [Sl.bt] using this
theorem Sl.fx_neg {l : List Sl} : Sl.fx l < 0 ↔ ∀ s ∈ l, ¬ s.state = 0 := by
  rcases find_cases Sl.free l with ⟨h1, h2⟩ | ⟨k, s, h1, h2, h3, h4⟩
  · rw [Sl.fx, h1]
    rw [List.any_eq_false] at h2
    exact ⟨fun _ s hs => by simpa [Sl.free] using h2 s hs, fun _ => by omega⟩
  · rw [Sl.fx, h1]
    refine ⟨fun h => absurd h (by omega), fun h => absurd (by simpa [Sl.free] using h4) (h s (List.mem_of_getElem? h3))⟩
theorem Wt.lt_le {x y z : Wt} (h : y.lt x = false) (k : y.lt z = true) : x.lt z = true := by
  rw [Bool.eq_false_iff, ne_eq, Wt.lt_iff] at h
  rw [Wt.lt_iff] at *
  omega
theorem Qu.settled_iff {ls : List Sl} {lw : List Wt} : Qu.settled ls lw = true ↔ ∀ t, lw[0]? = some t → (∀ s ∈ ls, ¬ s.state = 0) ∧ ∀ s ∈ ls, s.state = 1 → s.wt.lt t = true := by
  cases lw with
  | nil => simp [Qu.settled]
  | cons t rest =>
    have h0 : (t :: rest)[0]? = some t := rfl
    rw [Qu.settled_at h0, Bool.and_eq_true, decide_eq_true_eq, Sl.fx_neg, Bool.or_eq_true, decide_eq_true_eq]
    constructor
    · rintro ⟨h1, h2⟩ t' ht'
      rw [h0] at ht'
      injection ht' with ht'
      subst ht'
      refine ⟨h1, fun s hs hst => ?_⟩
      rcases Sl.bn_cases ls with hb | ⟨k, u, hb, _, hu, _⟩
      · exact absurd hst (Sl.bn_none hb hs)
      · rcases h2 with h2 | h2
        · omega
        · rw [hb, Sl.at_get hu] at h2
          exact Wt.lt_le (Sl.bn_top hb hu hs hst) h2
    · intro h
      obtain ⟨h1, h2⟩ := h t h0
      refine ⟨h1, ?_⟩
      rcases Sl.bn_cases ls with hb | ⟨k, u, hb, _, hu, hst⟩
      · left; omega
      · right
        rw [hb, Sl.at_get hu]
        exact h2 u (List.mem_of_getElem? hu) hst
theorem Sl.tkOk_get {ls : List Sl} {m : Int} (h : Sl.tkOk ls m = true) : ∃ (k : Nat) (s : Sl), Sl.bx ls = k ∧ k < ls.length ∧ ls[k]? = some s ∧ s.state = 1 ∧ s.prio < m ∧ Sl.tkS ls = ls.set k (Sl.act s) ∧ Sl.tkI ls = s.irq := by
  simp only [Sl.tkOk, Bool.and_eq_true, decide_eq_true_eq] at h
  obtain ⟨h1, h2⟩ := h
  rcases Sl.bx_cases ls with hb | ⟨k, s, hb, hk, hs, hst⟩
  · omega
  · rw [hb, Sl.at_get hs] at h2
    exact ⟨k, s, hb, hk, hs, hst, h2, by rw [Sl.tkS, hb, Sl.at_get hs]; rfl, by rw [Sl.tkI, hb, Sl.at_get hs]⟩
theorem Qu.tk_good {ls : List Sl} {lw : List Wt} {m : Int} (h : Qu.good ls lw = true) (hk : Sl.tkOk ls m = true) : Qu.good (Sl.tkS ls) lw = true := by
  obtain ⟨hp, hs⟩ := Qu.good_parts h
  have hp2 := Qu.tk_parts hp hk
  simp only [Qu.good, hp2, Bool.true_and]
  obtain ⟨k, s, _, _, hks, _, _, e, _⟩ := Sl.tkOk_get hk
  rw [Qu.settled_iff] at hs ⊢
  intro t ht
  obtain ⟨h1, h2⟩ := hs t ht
  rw [e]
  refine ⟨fun u hu => ?_, fun u hu hst => ?_⟩
  · rcases mem_set_or hu with rfl | ⟨j, _, hj⟩
    · simp [Sl.act]
    · exact h1 u (List.mem_of_getElem? hj)
  · rcases mem_set_or hu with rfl | ⟨j, _, hj⟩
    · simp [Sl.act] at hst
    · exact h2 u (List.mem_of_getElem? hj) hst

end Go.Proofs.YtfpaafmckeeecaaGreat

/- The reference's draw of a queue: it returns something, in new memory. Condition: at most 100000 reads before. -/
namespace Go.Proofs.YtfpaafmckeeecaaGreat
open Go.RowKit Go.ChangeShapes Go.WideShapes Go.Deep

/-- the state of a draw of a queue: the code, the reader at g, the result's box, the queue's box at gQ, its rows -/
structure DQ (w : World) (g : Nat) (cv : Value) (l : List UInt8) (lo hi : Nat) (k : Nat) (W : World) (gQ : Nat) (vs vw : Value) (ls : List Sl) (lw : List Wt) : Prop where
  h : Rd By.cells 1 W lo hi cv l
  c : Cur W g cv k
  G : w.grownBy W (some g)
  r : Box W w.heap.size 27 [.slice none 0 0, .slice none 0 0]
  q : Box W gQ 27 [vs, vw]
  os : Ow Sl.cells 3 76 W w.heap.size W.heap.size vs ls
  ow : Ow Wt.cells 2 67 W w.heap.size W.heap.size vw lw
/-- where the blocks lie -/
structure DQF (w : World) (g lo hi gQ : Nat) : Prop where
  hg : g < lo ∨ hi ≤ g
  hh : hi ≤ w.heap.size
  hw : g < w.heap.size
  hq : w.heap.size < gQ
section
variable {w W W' : World} {g lo hi k k' gQ : Nat} {cv vs vw : Value} {l : List UInt8} {ls : List Sl} {lw : List Wt}
theorem DQ.size (d : DQ w g cv l lo hi k W gQ vs vw ls lw) : w.heap.size ≤ W.heap.size := d.G.size
theorem DQ.hle (f : DQF w g lo hi gQ) (d : DQ w g cv l lo hi k W gQ vs vw ls lw) : hi ≤ W.heap.size := Nat.le_trans f.hh d.size
/-- only the reader's block has turned -/
theorem DQ.pick (d : DQ w g cv l lo hi k W gQ vs vw ls lw) (f : DQF w g lo hi gQ) (gg : W.grownBy W' (some g)) (c : Cur W' g cv k') : DQ w g cv l lo hi k' W' gQ vs vw ls lw := by
  obtain ⟨f1, f2, f3, f4⟩ := f
  exact ⟨d.h.grown gg (Nat.le_trans f2 d.size) (fun q e => by injection e with e; omega), c, grown_trans d.G gg, d.r.keep (gg.block _ d.r.lt (fun e => by injection e with e; omega)), d.q.keep (gg.block _ d.q.lt (fun e => by injection e with e; omega)),
   (d.os.apart gg (fun q e => by injection e with e; omega)).mono (Nat.le_refl _) gg.size, (d.ow.apart gg (fun q e => by injection e with e; omega)).mono (Nat.le_refl _) gg.size⟩
theorem DQ.below (d : DQ w g cv l lo hi k W gQ vs vw ls lw) (f : DQF w g lo hi gQ) (b : Below W.heap.size W W') : DQ w g cv l lo hi k W' gQ vs vw ls lw :=
  ⟨d.h.below b (Nat.le_trans f.hh d.size), d.c.grown0 (grown_below b), grown_trans d.G (grown_weaken (grown_below b)), d.r.below b d.r.lt, d.q.below b d.q.lt, (d.os.below b (Nat.le_refl _)).mono (Nat.le_refl _) b.size, (d.ow.below b (Nat.le_refl _)).mono (Nat.le_refl _) b.size⟩
/-- a box of queues, but the result's, is written -/
theorem DQ.wr {gT : Nat} {cs vv : List Value} {off : Nat} (d : DQ w g cv l lo hi k W gQ vs vw ls lw) (f : DQF w g lo hi gQ) (bT : Box W gT 27 cs) (hwT : w.heap.size < gT) {vs' vw' : Value} {ls' : List Sl} {lw' : List Wt} (hq : Box (setL W gT off vv) gQ 27 [vs', vw']) (o1 : Ow Sl.cells 3 76 W w.heap.size W.heap.size vs' ls') (o2 : Ow Wt.cells 2 67 W w.heap.size W.heap.size vw' lw') : DQ w g cv l lo hi k (setL W gT off vv) gQ vs' vw' ls' lw' := by
  obtain ⟨f1, f2, f3, f4⟩ := f
  have hs : (setL W gT off vv).heap.size = W.heap.size := setL_size _ _ _ _
  have gS := setL_grown vv W gT off
  refine ⟨d.h.grown gS (Nat.le_trans f2 d.size) (fun q e => by injection e with e; omega), d.c.other gS (by omega), grown_new d.G gS (fun q e => by injection e with e; omega), d.r.other (by omega) off vv, hq, ?_, ?_⟩
  · rw [hs]; exact o1.box bT (by decide) off vv
  · rw [hs]; exact o2.box bT (by decide) off vv
/-- the queue's box is written anew -/
theorem DQ.store (d : DQ w g cv l lo hi k W gQ vs vw ls lw) (f : DQF w g lo hi gQ) {vs' vw' : Value} {ls' : List Sl} {lw' : List Wt} (o1 : Ow Sl.cells 3 76 W w.heap.size W.heap.size vs' ls') (o2 : Ow Wt.cells 2 67 W w.heap.size W.heap.size vw' lw') : DQ w g cv l lo hi k (setL W gQ 0 [vs', vw']) gQ vs' vw' ls' lw' :=
  d.wr f d.q f.hq (d.q.setAll [vs', vw'] rfl) o1 o2
theorem DQ.store1 (d : DQ w g cv l lo hi k W gQ vs vw ls lw) (f : DQF w g lo hi gQ) {vs' : Value} {ls' : List Sl} (o1 : Ow Sl.cells 3 76 W w.heap.size W.heap.size vs' ls') : DQ w g cv l lo hi k (setL W gQ 0 [vs']) gQ vs' vw ls' lw :=
  d.wr f d.q f.hq (d.q.set1 (j := 0) vs' (by simp)) o1 d.ow
/-- another box of queues is written -/
theorem DQ.other {gT : Nat} {cs : List Value} (d : DQ w g cv l lo hi k W gQ vs vw ls lw) (f : DQF w g lo hi gQ) (bT : Box W gT 27 cs) (hne : gQ ≠ gT) (hwT : w.heap.size < gT) (off : Nat) (vv : List Value) : DQ w g cv l lo hi k (setL W gT off vv) gQ vs vw ls lw :=
  d.wr f bT hwT (d.q.other hne off vv) d.os d.ow
theorem DQ.boxed (d : DQ w g cv l lo hi k W gQ vs vw ls lw) (f : DQF w g lo hi gQ) : DQ w g cv l lo hi k (W.alloc (.cells #[.slice none 0 0, .slice none 0 0] 27)) gQ vs vw ls lw ∧ Box (W.alloc (.cells #[.slice none 0 0, .slice none 0 0] 27)) W.heap.size 27 [.slice none 0 0, .slice none 0 0] ∧ gQ < W.heap.size ∧ Below W.heap.size W (W.alloc (.cells #[.slice none 0 0, .slice none 0 0] 27)) := by
  have b := (Below.refl W.heap.size W).alloc (Nat.le_refl _) (.cells #[.slice none 0 0, .slice none 0 0] 27)
  exact ⟨d.below f b, Box.new W #[.slice none 0 0, .slice none 0 0] 27 rfl, d.q.lt, b⟩
/-- the waiting row has grown: the boxes are as they were -/
theorem DQ.app_box {row : Option Nat} (d : DQ w g cv l lo hi k W gQ vs vw ls lw) (gg : W.grownBy W' row) (hr : ∀ q, row = some q → w.heap.size ≤ q ∧ q < W.heap.size ∧ ∃ cur, W.heap[q]? = some (.cells cur 67 (0, 0))) : Box W' gQ 27 [vs, vw] :=
  d.q.other_type gg (fun q e => (hr q e).2.2) (by decide)
theorem DQ.app {row : Option Nat} (d : DQ w g cv l lo hi k W gQ vs vw ls lw) (f : DQF w g lo hi gQ) (gg : W.grownBy W' row) (hr : ∀ q, row = some q → w.heap.size ≤ q ∧ q < W.heap.size ∧ ∃ cur, W.heap[q]? = some (.cells cur 67 (0, 0))) {v8 : Value} {lw' : List Wt} (o8 : Ow Wt.cells 2 67 W' w.heap.size W'.heap.size v8 lw') : DQ w g cv l lo hi k (setL W' gQ 1 [v8]) gQ vs v8 ls lw' := by
  have bq := d.app_box gg hr
  have br : Box W' w.heap.size 27 [.slice none 0 0, .slice none 0 0] := d.r.other_type gg (fun q e => (hr q e).2.2) (by decide)
  have os : Ow Sl.cells 3 76 W' w.heap.size W'.heap.size vs ls := (d.os.other_type gg (fun q e => (hr q e).2.2) (by decide)).mono (Nat.le_refl _) gg.size
  obtain ⟨f1, f2, f3, f4⟩ := f
  have hs : (setL W' gQ 1 [v8]).heap.size = W'.heap.size := setL_size _ _ _ _
  have gS := setL_grown [v8] W' gQ 1
  have hG := grown_new d.G gg (fun q e => (hr q e).1)
  refine ⟨(d.h.grown gg (Nat.le_trans f2 d.size) (fun q e => .inr (by have := (hr q e).1; omega))).grown gS (by have := gg.size; have := d.size; omega) (fun q e => by injection e with e; omega), (d.c.row gg (fun q e => by have := (hr q e).1; omega)).other gS (by omega), grown_new hG gS (fun q e => by injection e with e; omega), br.other (by omega) 1 _, bq.set1 (j := 1) v8 (by simp), ?_, ?_⟩
  · rw [hs]; exact os.box bq (by decide) 1 _
  · rw [hs]; exact o8.box bq (by decide) 1 _
/-- one slot is written -/
theorem DQ.slot {b off n c i : Nat} {t t' : Sl} (d : DQ w g cv l lo hi k W gQ (.slice (some ⟨b, off, none⟩) n c) vw ls lw) (f : DQF w g lo hi gQ) (ht : ls[i]? = some t) (hi' : i < n) (hb : w.heap.size ≤ b) : DQ w g cv l lo hi k (setL W b (off + i * 3) t'.cells) gQ (.slice (some ⟨b, off, none⟩) n c) vw (ls.set i t') lw := by
  obtain ⟨f1, f2, f3, f4⟩ := f
  have hs : (setL W b (off + i * 3) t'.cells).heap.size = W.heap.size := setL_size _ _ _ _
  have gS := setL_grown t'.cells W b (off + i * 3)
  have hu : Upd 76 3 W (setL W b (off + i * 3 + 0) t'.cells) b (off + i * 3) t.cells t'.cells := Upd.of_setL 0 (ys := t'.cells) rfl (by simp [Sl.cells]) (by simp [Sl.cells])
  refine ⟨d.h.grown gS (Nat.le_trans f2 d.size) (fun q e => by injection e with e; omega), d.c.other gS (by omega), grown_new d.G gS (fun q e => by injection e with e; omega), d.r.row d.os (by omega) (by decide) _ _, d.q.row d.os (by omega) (by decide) _ _, ?_, ?_⟩
  · rw [hs]; exact d.os.upd Sl.cells_len (by omega) ht hu
  · rw [hs]; exact d.ow.row_type d.os (by omega) (by decide) _ _
end
theorem inB_mk {x a b : Int} (h : a ≤ x ∧ x ≤ b) : inB x a b = true := by rw [inB_iff]; omega
theorem Qu.good_fit {ls : List Sl} {lw : List Wt} (h : Qu.good ls lw = true) : Sl.dis ls ∧ ls.length = 4 ∧ lw.length ≤ 8 := ⟨Sl.dis_good (Qu.parts_get (Qu.good_parts h).1).1, Qu.good_len2 h⟩
theorem Qu.good_tkL {ls : List Sl} {lw : List Wt} (h : Qu.good ls lw = true) (m : Int) : Qu.good (Sl.tkL ls m) lw = true := by
  unfold Sl.tkL; split
  · rename_i hk; exact Qu.tk_good h hk
  · exact h
theorem Qu.good_ei {ls : List Sl} {lw : List Wt} (h : Qu.good ls lw = true) {i : Int} (hk : Sl.endOk ls i = true) : Qu.good (Qu.eiS ls lw i) (Qu.eiW ls lw i) = true := by
  rw [(Qu.ei_yes hk lw).1, (Qu.ei_yes hk lw).2]; exact Qu.eiP_good (Qu.good_parts h).1 hk
theorem Qu.good_of {ls : List Sl} {lw : List Wt} (h : Qu.good ls lw = true) {i p : Int} (hi : 0 ≤ i ∧ i ≤ 7) (hp : 0 ≤ p ∧ p ≤ 15) : Qu.good (Qu.ofP ls lw i p).1 (Qu.ofP ls lw i p).2 = true :=
  Qu.ofP_good (by simp only [Qu.ofOk, h, Bool.true_and, Bool.and_eq_true]; exact ⟨by rw [inB_iff]; omega, by rw [inB_iff]; omega⟩)
theorem Qu.good0 : Qu.good [⟨0, 0, 0⟩, ⟨0, 0, 0⟩, ⟨0, 0, 0⟩, ⟨0, 0, 0⟩] [] = true := by decide
theorem Wt.appK_ow {w : World} {o : Oper} {a : Act} {Q : Exit → Act → World → Prop} {K : Act → World → Prop} (hgd : o.guard = none) (s x : Operand)
    (ho : o.op = .call { callee := .builtin .append, args := #[s, x], argTypes := #[25, 25] }) {lo hi n c : Nat} {A : Option Addr} {l : List Wt} (hs : a.eval s = .slice A n c) (h : Ow Wt.cells 2 67 w lo hi (.slice A n c) l)
    (g cx : Nat) (y : Wt) (hx : a.eval x = .slice (some ⟨g, 0, none⟩) 1 cx) (hr : ∀ j u, (Wt.cells y)[j]? = some u → w.cell? ⟨g, j, none⟩ = some u) (hlen : n ≤ 4194304) (hlo : lo ≤ w.heap.size) (hhi : hi ≤ w.heap.size)
    (hk : ∀ v' w' row, Ow Wt.cells 2 67 w' lo w'.heap.size v' (l ++ [y]) → w.grownBy w' row → (∀ q, row = some q → lo ≤ q ∧ q < hi ∧ ∃ cur, w.heap[q]? = some (.cells cur 67 (0, 0))) → K (a.put o.dst v') w') {ops : Array Oper} : if Region.wanted o (yielded ops a.tmps) = true then Oper.wp Tryz.prog o a w K Q else K (a.put o.dst undef) w := by
  have hw : Region.wanted o (yielded ops a.tmps) = true := by simp [Region.wanted, hgd]
  rw [if_pos hw]
  obtain ⟨i0, hi0, hz0, hz1, hz2⟩ := info_parts Wt.info
  obtain ⟨v', w', hrun, h2, row, h3, h4⟩ := run_app_ow (P := Tryz.prog) w 25 o.type _ i0 _ 2 _ Tryz.underlying25 hi0 hz0 hz1 hz2 rfl (by omega) Wt.cells_len Wt.one h g cx y hr (by unfold maxLen; omega) (by omega) hlo hhi
  unfold Oper.wp execOp
  simp only [ho, resolve, invoke, builtin, Sem.run_bind, Sem.run_pure, Result.andThen_ok, List.map_toArray, List.map_cons, List.map_nil, hs, hx, hrun]
  exact hk v' w' row h2 h3 h4

set_option maxRecDepth 8000 in
set_option maxHeartbeats 8000000 in
theorem queue_any (g k : Nat) (cv : Value) (l : List UInt8) (w : World) {lo hi : Nat} (h : Rd By.cells 1 w lo hi cv l) (hh : hi ≤ w.heap.size) (hg : g < lo ∨ hi ≤ g) (hc : Cur w g cv k) (hk : k ≤ 50000) :
    Calls Tryz.prog 44 #[.pointer (some ⟨g, 0, none⟩)] w fun e w' => ∃ vs vw, ∃ ls : List Sl, ∃ lw : List Wt, e = .returned (.agg #[vs, vw]) ∧ Sl.dis ls ∧ ls.length ≤ 5 ∧ lw.length ≤ 9 ∧ Ow Sl.cells 3 76 w' w.heap.size w'.heap.size vs ls ∧ Ow Wt.cells 2 67 w' w.heap.size w'.heap.size vw lw ∧ w.grownBy w' (some g) ∧ Cur w' g cv (k + 300) := by
  have hgl := hc.lt
  go_enter Tryz.func44, Tryz.ntmps44
  have bR0 := Box.new w #[.slice none 0 0, .slice none 0 0] 27 rfl
  have B1 := (Below.refl w.heap.size w).alloc (Nat.le_refl _) (.cells #[.slice none 0 0, .slice none 0 0] 27)
  have z1 : (w.alloc (.cells #[.slice none 0 0, .slice none 0 0] 27)).heap.size = w.heap.size + 1 := by simp
  go_wp2_with fail
  generalize w.alloc (.cells #[.slice none 0 0, .slice none 0 0] 27) = w1 at *
  have o1 := lit_slots w1
  have l2 := (Below.refl w1.heap.size w1).alloc (Nat.le_refl _) (.cells #[.int .i64 0, .int .i64 0, .int .i64 0, .int .i64 0, .int .i64 0, .int .i64 0, .int .i64 0, .int .i64 0, .int .i64 0, .int .i64 0, .int .i64 0, .int .i64 0] 76)
  have z2 : (w1.alloc (.cells #[.int .i64 0, .int .i64 0, .int .i64 0, .int .i64 0, .int .i64 0, .int .i64 0, .int .i64 0, .int .i64 0, .int .i64 0, .int .i64 0, .int .i64 0, .int .i64 0] 76)).heap.size = w1.heap.size + 1 := by simp
  replace bR0 := bR0.below l2 bR0.lt
  replace B1 := B1.trans (l2.mono (by omega))
  rw [z1] at o1 z2
  clear l2
  generalize w1.alloc (.cells #[.int .i64 0, .int .i64 0, .int .i64 0, .int .i64 0, .int .i64 0, .int .i64 0, .int .i64 0, .int .i64 0, .int .i64 0, .int .i64 0, .int .i64 0, .int .i64 0] 76) = w2 at *
  have l3 := (Below.refl w2.heap.size w2).alloc (Nat.le_refl _) (.cells #[] 67)
  have o2 : Ow Wt.cells 2 67 (w2.alloc (.cells #[] 67)) w.heap.size (w2.alloc (.cells #[] 67)).heap.size (.slice (some ⟨w.heap.size + 1 + 1, 0, none⟩) 0 0) [] := Ow.lit0
  have z3 : (w2.alloc (.cells #[] 67)).heap.size = w2.heap.size + 1 := by simp
  replace bR0 := bR0.below l3 bR0.lt
  replace B1 := B1.trans (l3.mono (by omega))
  replace o1 := o1.below l3 (by omega)
  rw [z2] at z3
  clear l3
  generalize w2.alloc (.cells #[] 67) = w3 at *
  have l4 := (Below.refl w3.heap.size w3).alloc (Nat.le_refl _) (.cells #[.slice (some ⟨w.heap.size + 1, 0, none⟩) 4 4, .slice (some ⟨w.heap.size + 1 + 1, 0, none⟩) 0 0] 27)
  have bQ := Box.new (g := (w.heap.size + 1 + 1 + 1)) w3 #[.slice (some ⟨w.heap.size + 1, 0, none⟩) 4 4, .slice (some ⟨w.heap.size + 1 + 1, 0, none⟩) 0 0] 27 z3.symm
  have z4 : (w3.alloc (.cells #[.slice (some ⟨w.heap.size + 1, 0, none⟩) 4 4, .slice (some ⟨w.heap.size + 1 + 1, 0, none⟩) 0 0] 27)).heap.size = w3.heap.size + 1 := by simp
  replace bR0 := bR0.below l4 bR0.lt
  replace B1 := B1.trans (l4.mono (by omega))
  replace o1 := o1.below l4 (by omega)
  replace o2 := o2.below l4 (by omega)
  clear l4
  generalize w3.alloc (.cells #[.slice (some ⟨w.heap.size + 1, 0, none⟩) 4 4, .slice (some ⟨w.heap.size + 1 + 1, 0, none⟩) 0 0] 27) = w4 at *
  have HF : DQF w g lo hi (w.heap.size + 1 + 1 + 1) := ⟨hg, hh, hgl, by omega⟩
  have hq : DQ w g cv l lo hi k w4 (w.heap.size + 1 + 1 + 1) _ _ _ _ := ⟨h.below B1 hh, hc.grown0 (grown_below B1), grown_weaken (grown_below B1), bR0, bQ, o1.mono (by omega) (by omega), o2.mono (by omega) (by omega)⟩
  clear h hc bR0 B1 o1 o2 bQ z1 z2 z3 z4
  have hg0 := Lib.hid Qu.good0
  generalize w.heap.size + 1 + 1 + 1 = gQ at *
  have hgQ : w.heap.size < gQ := HF.hq
  refine (pick_any g _ _ l 14 _ hq.h (DQ.hle HF hq) hg hq.c (by omega) (by omega)).mono ?_; rintro q_ wp_x1 ⟨x1, rfl, x1_0, x1_1, gg, kk⟩
  replace hq := hq.pick HF gg kk
  clear gg kk
  obtain ⟨m, rfl⟩ : ∃ m : Nat, x1 = m := ⟨x1.toNat, by omega⟩
  have hm9 : m < 14 := by omega
  clear x1_0 x1_1
  go_wp2_with fail
  go_loopw [4] (fun v4 wr => ∃ (i q : Nat) (ls : List Sl) (lw : List Wt) (A0 A1 : Option Addr) (n0 c0 n1 c1 : Nat), i + q = m ∧ v4 = .int .i64 q ∧ Hid (Qu.good ls lw = true) ∧ DQ w g cv l lo hi (k + 2 + 8 * i) wr gQ (.slice A0 n0 c0) (.slice A1 n1 c1) ls lw) (fun v4 _ => (intOf v4).toNat)
  case atStart => exact ⟨0, m, _, _, _, _, _, _, _, _, by omega, rfl, hg0, hq⟩
  case round =>
    clear hq hg0
    obtain ⟨i, q, ls, lw, A0, A1, n0, c0, n1, c1, hiq, rfl, HGd, hq⟩ := hrel
    rcases Nat.eq_zero_or_pos q with hz | hz
    rotate_left
    · obtain ⟨p, rfl⟩ : ∃ p, q = p + 1 := ⟨q - 1, by omega⟩
      have hqd : decide ((0 : Int) < ((p + 1 : Nat) : Int)) = true := decide_eq_true (by omega)
      have bq0 := hq.q.cell (j := 0) rfl
      have bq1 := hq.q.cell (j := 1) rfl
      have bqz := hq.q.frozen
      have bql := hq.q.lt
      go_wp2_with fail
      clear bq0 bq1 bqz bql
      refine (pick_any g _ _ l 5 _ hq.h (DQ.hle HF hq) hg hq.c (by omega) (by omega)).mono ?_; rintro q_ wp_y1 ⟨y1, rfl, y1_0, y1_1, gg, kk⟩
      replace hq := hq.pick HF gg kk
      clear gg kk
      rcases (show y1 = 0 ∨ y1 = 1 ∨ y1 = 2 ∨ y1 = 3 ∨ y1 = 4 by omega) with rfl | rfl | rfl | rfl | rfl
      all_goals clear y1_0 y1_1
      · go_upto_region 9 with fail
        have hCalls := HGd.out
        have hPp := Lib.hid (Qu.good_parts hCalls).1
        clear hCalls
        replace hq := hq.below HF (Below.refl _ _).drew
        have bq0 := hq.q.cell (j := 0) rfl
        have bq1 := hq.q.cell (j := 1) rfl
        have bqz := hq.q.frozen
        have bql := hq.q.lt
        go_region_with (first | (go_at_call 56; refine (pick_any g _ _ l 8 _ hq.h (DQ.hle HF hq) hg hq.c (by omega) (by omega)).mono ?_; rintro q_ wp ⟨y, rfl, y_0, y_1, gg, kk⟩; (replace hq := hq.pick HF gg kk); (have bq0 := hq.q.cell (j := 0) rfl); (have bq1 := hq.q.cell (j := 1) rfl); (have bqz := hq.q.frozen); (have bql := hq.q.lt)) | (go_at_call 52; refine (specOffer_in _ _ ls lw _ _ _ hq.os.rd hq.ow.rd (Nat.le_refl _) (Nat.le_refl _) hPp.out (inB_mk (by omega)) (inB_mk (by omega))).mono ?_; rintro q_ wo ⟨v5, v6, rfl, o5, o6, bb⟩; (obtain ⟨A5, n5, c5, rfl, _, _, _⟩ := o5.rd.form); (obtain ⟨A6, n6, c6, rfl, _, _, _⟩ := o6.rd.form); (have zb := hq.size); (replace hq := hq.below HF bb); (have bq0 := hq.q.cell (j := 0) rfl); (have bq1 := hq.q.cell (j := 1) rfl); (have bqz := hq.q.frozen); (have bql := hq.q.lt)))
        all_goals
          go_wp2_with fail

          generalize hwz : World.setCell (World.setCell _ _ _) _ _ = wz_
          obtain rfl : wz_ = setL wo gQ 0 [.slice A5 n5 c5, .slice A6 n6 c6] := hwz.symm
          clear hwz
          replace hq := hq.store HF (o5.mono (by omega) (Nat.le_refl _)) (o6.mono (by omega) (Nat.le_refl _))
          generalize setL wo _ 0 _ = wS at *
          go_roundw
          case rel => exact ⟨i + 1, p, _, _, _, _, _, _, _, _, by omega, by go_num, Lib.hid (Qu.good_of HGd.out (by omega) (by omega)), ⟨hq.h, hq.c.mono (by omega), hq.G, hq.r, hq.q, hq.os, hq.ow⟩⟩
          case measure => simp [intOf]
      · go_upto_region 9 with fail
        have hCalls := HGd.out
        have hPp := Lib.hid (Qu.good_parts hCalls).1
        clear hCalls
        replace hq := hq.below HF (Below.refl _ _).drew
        have bq0 := hq.q.cell (j := 0) rfl
        have bq1 := hq.q.cell (j := 1) rfl
        have bqz := hq.q.frozen
        have bql := hq.q.lt
        go_region_with (first | (go_at_call 56; refine (pick_any g _ _ l 8 _ hq.h (DQ.hle HF hq) hg hq.c (by omega) (by omega)).mono ?_; rintro q_ wp ⟨y, rfl, y_0, y_1, gg, kk⟩; (replace hq := hq.pick HF gg kk); (have bq0 := hq.q.cell (j := 0) rfl); (have bq1 := hq.q.cell (j := 1) rfl); (have bqz := hq.q.frozen); (have bql := hq.q.lt)) | (go_at_call 52; refine (specOffer_in _ _ ls lw _ _ _ hq.os.rd hq.ow.rd (Nat.le_refl _) (Nat.le_refl _) hPp.out (inB_mk (by omega)) (inB_mk (by omega))).mono ?_; rintro q_ wo ⟨v5, v6, rfl, o5, o6, bb⟩; (obtain ⟨A5, n5, c5, rfl, _, _, _⟩ := o5.rd.form); (obtain ⟨A6, n6, c6, rfl, _, _, _⟩ := o6.rd.form); (have zb := hq.size); (replace hq := hq.below HF bb); (have bq0 := hq.q.cell (j := 0) rfl); (have bq1 := hq.q.cell (j := 1) rfl); (have bqz := hq.q.frozen); (have bql := hq.q.lt)))
        all_goals
          go_wp2_with fail

          generalize hwz : World.setCell (World.setCell _ _ _) _ _ = wz_
          obtain rfl : wz_ = setL wo gQ 0 [.slice A5 n5 c5, .slice A6 n6 c6] := hwz.symm
          clear hwz
          replace hq := hq.store HF (o5.mono (by omega) (Nat.le_refl _)) (o6.mono (by omega) (Nat.le_refl _))
          generalize setL wo _ 0 _ = wS at *
          go_roundw
          case rel => exact ⟨i + 1, p, _, _, _, _, _, _, _, _, by omega, by go_num, Lib.hid (Qu.good_of HGd.out (by omega) (by omega)), ⟨hq.h, hq.c.mono (by omega), hq.G, hq.r, hq.q, hq.os, hq.ow⟩⟩
          case measure => simp [intOf]
      · go_upto_region 9 with fail
        have hCalls := HGd.out
        have hPp := Lib.hid (Qu.good_parts hCalls).1
        clear hCalls
        replace hq := hq.below HF (Below.refl _ _).drew
        have bq0 := hq.q.cell (j := 0) rfl
        have bq1 := hq.q.cell (j := 1) rfl
        have bqz := hq.q.frozen
        have bql := hq.q.lt
        go_region_with (first | (go_at_call 56; refine (pick_any g _ _ l 8 _ hq.h (DQ.hle HF hq) hg hq.c (by omega) (by omega)).mono ?_; rintro q_ wp ⟨y, rfl, y_0, y_1, gg, kk⟩; (replace hq := hq.pick HF gg kk); (have bq0 := hq.q.cell (j := 0) rfl); (have bq1 := hq.q.cell (j := 1) rfl); (have bqz := hq.q.frozen); (have bql := hq.q.lt)) | (go_at_call 52; refine (specOffer_in _ _ ls lw _ _ _ hq.os.rd hq.ow.rd (Nat.le_refl _) (Nat.le_refl _) hPp.out (inB_mk (by omega)) (inB_mk (by omega))).mono ?_; rintro q_ wo ⟨v5, v6, rfl, o5, o6, bb⟩; (obtain ⟨A5, n5, c5, rfl, _, _, _⟩ := o5.rd.form); (obtain ⟨A6, n6, c6, rfl, _, _, _⟩ := o6.rd.form); (have zb := hq.size); (replace hq := hq.below HF bb); (have bq0 := hq.q.cell (j := 0) rfl); (have bq1 := hq.q.cell (j := 1) rfl); (have bqz := hq.q.frozen); (have bql := hq.q.lt)))
        all_goals
          go_wp2_with fail

          generalize hwz : World.setCell (World.setCell _ _ _) _ _ = wz_
          obtain rfl : wz_ = setL wo gQ 0 [.slice A5 n5 c5, .slice A6 n6 c6] := hwz.symm
          clear hwz
          replace hq := hq.store HF (o5.mono (by omega) (Nat.le_refl _)) (o6.mono (by omega) (Nat.le_refl _))
          generalize setL wo _ 0 _ = wS at *
          go_roundw
          case rel => exact ⟨i + 1, p, _, _, _, _, _, _, _, _, by omega, by go_num, Lib.hid (Qu.good_of HGd.out (by omega) (by omega)), ⟨hq.h, hq.c.mono (by omega), hq.G, hq.r, hq.q, hq.os, hq.ow⟩⟩
          case measure => simp [intOf]
      · have HP4 := Lib.hid (Qu.good_fit HGd.out)
        have bq0 := hq.q.cell (j := 0) rfl
        have bq1 := hq.q.cell (j := 1) rfl
        have bqz := hq.q.frozen
        have bql := hq.q.lt
        go_wp2_with fail
        clear bq0 bq1 bqz bql
        have zb := hq.size
        refine (specTakeQ_in _ _ ls lw 16 _ hq.os.rd hq.ow.rd (Nat.le_refl _) (Nat.le_refl _) (Qu.parts_get (Qu.good_parts HGd.out).1).1 (by have := HP4.out.2.2; omega)).mono ?_; rintro q_ wo ⟨v5, v6, rfl, o5, o6, bb⟩
        obtain ⟨A5, n5, c5, rfl, _, _, _⟩ := o5.rd.form
        obtain ⟨A6, n6, c6, rfl, _, _, _⟩ := o6.rd.form
        replace hq := hq.below HF bb
        have bq0 := hq.q.cell (j := 0) rfl
        have bq1 := hq.q.cell (j := 1) rfl
        have bqz := hq.q.frozen
        have bql := hq.q.lt
        go_wp2_with fail
        clear bq0 bq1 bqz bql
        generalize hwz : World.setCell (World.setCell _ _ _) _ _ = wz_
        obtain rfl : wz_ = setL wo gQ 0 [.slice A5 n5 c5, .slice A6 n6 c6] := hwz.symm
        clear hwz
        replace hq := hq.store HF (o5.mono (by omega) (Nat.le_refl _)) (o6.mono (by omega) (Nat.le_refl _))
        generalize setL wo _ 0 _ = wS at *
        go_roundw
        case rel => exact ⟨i + 1, p, _, _, _, _, _, _, _, _, by omega, by go_num, Lib.hid (Qu.good_tkL HGd.out 16), ⟨hq.h, hq.c.mono (by omega), hq.G, hq.r, hq.q, hq.os, hq.ow⟩⟩
        case measure => simp [intOf]
      · have hPp := Lib.hid (Qu.good_parts HGd.out).1
        have bq0 := hq.q.cell (j := 0) rfl
        have bq1 := hq.q.cell (j := 1) rfl
        have bqz := hq.q.frozen
        have bql := hq.q.lt
        go_upto_region 13 with fail
        clear bq0 bq1 bqz bql
        go_cut [5, 6] (fun s5 s6 wx => ∃ (ww : World) (gT : Nat) (y : Int) (A5 A6 : Option Addr) (n5 c5 n6 c6 : Nat), ww = wx ∧ s5 = .pointer (some ⟨gT, 0, none⟩) ∧ s6 = .bool (Sl.endOk ls y) ∧ DQ w g cv l lo hi (k + 2 + 8 * i + 2 + 2) wx gQ (.slice A0 n0 c0) (.slice A1 n1 c1) ls lw ∧ gQ < gT ∧ Box wx gT 27 [.slice A5 n5 c5, .slice A6 n6 c6] ∧ Ow Sl.cells 3 76 wx w.heap.size wx.heap.size (.slice A5 n5 c5) (Qu.eiS ls lw y) ∧ Ow Wt.cells 2 67 wx w.heap.size wx.heap.size (.slice A6 n6 c6) (Qu.eiW ls lw y))
        case first =>
          refine wp_region_held_drew (S := fun W => Box W gQ 27 [.slice A0 n0 c0, .slice A1 n1 c1]) (by kernel_rfl) (show (fun (W : World) => Box W gQ 27 [.slice A0 n0 c0, .slice A1 n1 c1]) wp_y1.drew from hq.q.drew) (fun hHeld => ?_)
          refine wpAnyH_take (i := 0) (v := .agg #[.slice A0 n0 c0, .slice A1 n1 c1]) rfl (by kernel_rfl) (by kernel_rfl) (by kernel_rfl) (fun _ _ _ h => h) (Or.inl ⟨by rfl, by intro w hSw; have hS0 := hSw; have y00 := hS0.cell (j := 0) rfl; have y01 := hS0.cell (j := 1) rfl; go_simp⟩) hHeld ?_
          refine wpAnyH_take (i := 1) (v := .pointer (some ⟨g, 0, none⟩)) rfl (by kernel_rfl) (by kernel_rfl) (by kernel_rfl) (fun _ _ _ h => h) (Or.inl ⟨by rfl, by intro w hSw; have hS0 := hSw; have y00 := hS0.cell (j := 0) rfl; have y01 := hS0.cell (j := 1) rfl; go_simp⟩) hHeld ?_
          clear hHeld
          refine held_gen (F := fun W' => DQ w g cv l lo hi (k + 2 + 8 * i + 2) W' gQ (.slice A0 n0 c0) (.slice A1 n1 c1) ls lw) (hq.below HF (Below.refl _ _).drew) ?_
          clear hq
          rintro wh hq
          refine wpAnyH_ready (rs := [2, 7]) (by kernel_rfl) (by decide) ?_
          refine AllReadyH.cons rfl (fun K1a hK1a => ?_) (AllReadyH.cons rfl (fun K1b hK1b => ?_) AllReadyH.nil)
          · go_simp
            refine (pick_any g _ _ l 8 _ hq.h (DQ.hle HF hq) hg hq.c (by omega) (by omega)).mono ?_; rintro q_ wp2 ⟨y2, rfl, y2_0, y2_1, gg, kk⟩
            replace hq := hq.pick HF gg kk
            clear gg kk
            refine hK1a.out _ _ hq.q (fun _ => ?_)
            refine wpAnyH_ready (rs := [3, 7]) (by kernel_rfl) (by decide) ?_
            refine AllReadyH.cons rfl (fun K2a hK2a => ?_) (AllReadyH.cons rfl (fun K2b hK2b => ?_) AllReadyH.nil)
            · go_simp
              have zb := hq.size
              refine (specEndQ_in _ _ ls lw y2 _ hq.os.rd hq.ow.rd (Nat.le_refl _) (Nat.le_refl _) hPp.out).mono ?_; rintro q_ wo ⟨v5, v6, rfl, o5, o6, bb⟩
              obtain ⟨A5, n5, c5, rfl, _, _, _⟩ := o5.rd.form
              obtain ⟨A6, n6, c6, rfl, _, _, _⟩ := o6.rd.form
              replace hq := hq.below HF bb
              replace o5 := o5.mono zb (Nat.le_refl _)
              replace o6 := o6.mono zb (Nat.le_refl _)
              clear bb
              refine hK2a.out _ _ hq.q (fun _ => ?_)
              have hHeld : (fun (W : World) => Box W gQ 27 [.slice A0 n0 c0, .slice A1 n1 c1]) wo := hq.q
              refine wpAnyH_take (i := 4) (v := .tuple #[.agg #[.slice A5 n5 c5, .slice A6 n6 c6], .bool (Sl.endOk ls y2)]) rfl (by kernel_rfl) (by kernel_rfl) (by kernel_rfl) (fun _ _ _ h => h) (Or.inl ⟨by rfl, by intro w hSw; have hS0 := hSw; have y00 := hS0.cell (j := 0) rfl; have y01 := hS0.cell (j := 1) rfl; go_simp⟩) hHeld ?_
              refine wpAnyH_take (i := 5) (v := .agg #[.slice A5 n5 c5, .slice A6 n6 c6]) rfl (by kernel_rfl) (by kernel_rfl) (by kernel_rfl) (fun _ _ _ h => h) (Or.inl ⟨by rfl, by intro w hSw; have hS0 := hSw; have y00 := hS0.cell (j := 0) rfl; have y01 := hS0.cell (j := 1) rfl; go_simp⟩) hHeld ?_
              refine wpAnyH_take (i := 6) (v := .bool (Sl.endOk ls y2)) rfl (by kernel_rfl) (by kernel_rfl) (by kernel_rfl) (fun _ _ _ h => h) (Or.inl ⟨by rfl, by intro w hSw; have hS0 := hSw; have y00 := hS0.cell (j := 0) rfl; have y01 := hS0.cell (j := 1) rfl; go_simp⟩) hHeld ?_
              clear hHeld
              refine wpAnyH_ready (rs := [7]) (by kernel_rfl) (by decide) ?_
              refine AllReadyH.cons rfl (fun K3 hK3 => ?_) AllReadyH.nil
              go_simp
              obtain ⟨hqa, bT, hbT, bb⟩ := hq.boxed HF
              replace hq := hqa
              clear hqa
              replace o5 := (o5.below bb (Nat.le_refl _)).mono (Nat.le_refl _) bb.size
              replace o6 := (o6.below bb (Nat.le_refl _)).mono (Nat.le_refl _) bb.size
              clear bb
              generalize wo.alloc _ = wa at *
              generalize wo.heap.size = gT at *
              refine hK3.out _ _ hq.q (fun _ => ?_)
              refine wpAnyH_ready (rs := [8]) (by kernel_rfl) (by decide) ?_
              refine AllReadyH.cons rfl (fun K4 hK4 => ?_) AllReadyH.nil
              have bt0 := bT.cell (j := 0) rfl
              have bt1 := bT.cell (j := 1) rfl
              have btz := bT.frozen
              have btl := bT.lt
              go_simp
              clear bt0 bt1 btz btl
              generalize hwz : World.setCell (World.setCell _ _ _) _ _ = wz_
              obtain rfl : wz_ = setL wa gT 0 [.slice A5 n5 c5, .slice A6 n6 c6] := hwz.symm
              clear hwz
              replace hq := hq.other HF bT (by omega) (by omega) 0 [.slice A5 n5 c5, .slice A6 n6 c6]
              have zS : (setL wa gT 0 [.slice A5 n5 c5, .slice A6 n6 c6]).heap.size = wa.heap.size := setL_size _ _ _ _
              replace o5 := (o5.box bT (by decide) 0 [.slice A5 n5 c5, .slice A6 n6 c6]).mono (Nat.le_refl _) (Nat.le_of_eq zS.symm)
              replace o6 := (o6.box bT (by decide) 0 [.slice A5 n5 c5, .slice A6 n6 c6]).mono (Nat.le_refl _) (Nat.le_of_eq zS.symm)
              replace bT := bT.setAll [.slice A5 n5 c5, .slice A6 n6 c6] rfl
              clear zS
              generalize setL wa _ 0 _ = wt at *
              refine hK4.out _ _ hq.q (fun _ => ?_)
              refine wpAnyH_ready (rs := [9]) (by kernel_rfl) (by decide) ?_
              refine AllReadyH.cons rfl (fun K5 hK5 => ?_) AllReadyH.nil
              go_simp
              refine hK5.out _ _ hq.q (fun _ => ?_)
              refine ⟨by kernel_rfl, ?_⟩
              go_wp2_with fail
              go_meet
              exact ⟨_, gT, y2, _, _, _, _, _, _, rfl, rfl, rfl, hq, hbT, bT, o5, o6⟩
            · go_simp
              obtain ⟨hqa, bT, hbT, bb⟩ := hq.boxed HF
              replace hq := hqa
              clear hqa
              clear bb
              generalize wp2.alloc _ = wa at *
              generalize wp2.heap.size = gT at *
              refine hK2b.out _ _ hq.q (fun _ => ?_)
              refine wpAnyH_ready (rs := [3]) (by kernel_rfl) (by decide) ?_
              refine AllReadyH.cons rfl (fun K6 hK6 => ?_) AllReadyH.nil
              go_simp
              have zb := hq.size
              refine (specEndQ_in _ _ ls lw y2 _ hq.os.rd hq.ow.rd (Nat.le_refl _) (Nat.le_refl _) hPp.out).mono ?_; rintro q_ wo ⟨v5, v6, rfl, o5, o6, bb⟩
              obtain ⟨A5, n5, c5, rfl, _, _, _⟩ := o5.rd.form
              obtain ⟨A6, n6, c6, rfl, _, _, _⟩ := o6.rd.form
              replace hq := hq.below HF bb
              replace o5 := o5.mono zb (Nat.le_refl _)
              replace o6 := o6.mono zb (Nat.le_refl _)
              replace bT := bT.below bb bT.lt
              clear bb
              refine hK6.out _ _ hq.q (fun _ => ?_)
              have hHeld : (fun (W : World) => Box W gQ 27 [.slice A0 n0 c0, .slice A1 n1 c1]) wo := hq.q
              refine wpAnyH_take (i := 4) (v := .tuple #[.agg #[.slice A5 n5 c5, .slice A6 n6 c6], .bool (Sl.endOk ls y2)]) rfl (by kernel_rfl) (by kernel_rfl) (by kernel_rfl) (fun _ _ _ h => h) (Or.inl ⟨by rfl, by intro w hSw; have hS0 := hSw; have y00 := hS0.cell (j := 0) rfl; have y01 := hS0.cell (j := 1) rfl; go_simp⟩) hHeld ?_
              refine wpAnyH_take (i := 5) (v := .agg #[.slice A5 n5 c5, .slice A6 n6 c6]) rfl (by kernel_rfl) (by kernel_rfl) (by kernel_rfl) (fun _ _ _ h => h) (Or.inl ⟨by rfl, by intro w hSw; have hS0 := hSw; have y00 := hS0.cell (j := 0) rfl; have y01 := hS0.cell (j := 1) rfl; go_simp⟩) hHeld ?_
              refine wpAnyH_take (i := 6) (v := .bool (Sl.endOk ls y2)) rfl (by kernel_rfl) (by kernel_rfl) (by kernel_rfl) (fun _ _ _ h => h) (Or.inl ⟨by rfl, by intro w hSw; have hS0 := hSw; have y00 := hS0.cell (j := 0) rfl; have y01 := hS0.cell (j := 1) rfl; go_simp⟩) hHeld ?_
              clear hHeld
              refine wpAnyH_ready (rs := [8]) (by kernel_rfl) (by decide) ?_
              refine AllReadyH.cons rfl (fun K7 hK7 => ?_) AllReadyH.nil
              have bt0 := bT.cell (j := 0) rfl
              have bt1 := bT.cell (j := 1) rfl
              have btz := bT.frozen
              have btl := bT.lt
              go_simp
              clear bt0 bt1 btz btl
              generalize hwz : World.setCell (World.setCell _ _ _) _ _ = wz_
              obtain rfl : wz_ = setL wo gT 0 [.slice A5 n5 c5, .slice A6 n6 c6] := hwz.symm
              clear hwz
              replace hq := hq.other HF bT (by omega) (by omega) 0 [.slice A5 n5 c5, .slice A6 n6 c6]
              have zS : (setL wo gT 0 [.slice A5 n5 c5, .slice A6 n6 c6]).heap.size = wo.heap.size := setL_size _ _ _ _
              replace o5 := (o5.box bT (by decide) 0 [.slice A5 n5 c5, .slice A6 n6 c6]).mono (Nat.le_refl _) (Nat.le_of_eq zS.symm)
              replace o6 := (o6.box bT (by decide) 0 [.slice A5 n5 c5, .slice A6 n6 c6]).mono (Nat.le_refl _) (Nat.le_of_eq zS.symm)
              replace bT := bT.setAll [.slice A5 n5 c5, .slice A6 n6 c6] rfl
              clear zS
              generalize setL wo _ 0 _ = wt at *
              refine hK7.out _ _ hq.q (fun _ => ?_)
              refine wpAnyH_ready (rs := [9]) (by kernel_rfl) (by decide) ?_
              refine AllReadyH.cons rfl (fun K8 hK8 => ?_) AllReadyH.nil
              go_simp
              refine hK8.out _ _ hq.q (fun _ => ?_)
              refine ⟨by kernel_rfl, ?_⟩
              go_wp2_with fail
              go_meet
              exact ⟨_, gT, y2, _, _, _, _, _, _, rfl, rfl, rfl, hq, hbT, bT, o5, o6⟩
          · go_simp
            obtain ⟨hqa, bT, hbT, bb⟩ := hq.boxed HF
            replace hq := hqa
            clear hqa
            clear bb
            generalize wh.alloc _ = wa at *
            generalize wh.heap.size = gT at *
            refine hK1b.out _ _ hq.q (fun _ => ?_)
            refine wpAnyH_ready (rs := [2]) (by kernel_rfl) (by decide) ?_
            refine AllReadyH.cons rfl (fun K9 hK9 => ?_) AllReadyH.nil
            go_simp
            refine (pick_any g _ _ l 8 _ hq.h (DQ.hle HF hq) hg hq.c (by omega) (by omega)).mono ?_; rintro q_ wp2 ⟨y2, rfl, y2_0, y2_1, gg, kk⟩
            replace hq := hq.pick HF gg kk
            replace bT := bT.keep (gg.block _ bT.lt (fun e => by injection e with e; omega))
            clear gg kk
            refine hK9.out _ _ hq.q (fun _ => ?_)
            refine wpAnyH_ready (rs := [3]) (by kernel_rfl) (by decide) ?_
            refine AllReadyH.cons rfl (fun K10 hK10 => ?_) AllReadyH.nil
            go_simp
            have zb := hq.size
            refine (specEndQ_in _ _ ls lw y2 _ hq.os.rd hq.ow.rd (Nat.le_refl _) (Nat.le_refl _) hPp.out).mono ?_; rintro q_ wo ⟨v5, v6, rfl, o5, o6, bb⟩
            obtain ⟨A5, n5, c5, rfl, _, _, _⟩ := o5.rd.form
            obtain ⟨A6, n6, c6, rfl, _, _, _⟩ := o6.rd.form
            replace hq := hq.below HF bb
            replace o5 := o5.mono zb (Nat.le_refl _)
            replace o6 := o6.mono zb (Nat.le_refl _)
            replace bT := bT.below bb bT.lt
            clear bb
            refine hK10.out _ _ hq.q (fun _ => ?_)
            have hHeld : (fun (W : World) => Box W gQ 27 [.slice A0 n0 c0, .slice A1 n1 c1]) wo := hq.q
            refine wpAnyH_take (i := 4) (v := .tuple #[.agg #[.slice A5 n5 c5, .slice A6 n6 c6], .bool (Sl.endOk ls y2)]) rfl (by kernel_rfl) (by kernel_rfl) (by kernel_rfl) (fun _ _ _ h => h) (Or.inl ⟨by rfl, by intro w hSw; have hS0 := hSw; have y00 := hS0.cell (j := 0) rfl; have y01 := hS0.cell (j := 1) rfl; go_simp⟩) hHeld ?_
            refine wpAnyH_take (i := 5) (v := .agg #[.slice A5 n5 c5, .slice A6 n6 c6]) rfl (by kernel_rfl) (by kernel_rfl) (by kernel_rfl) (fun _ _ _ h => h) (Or.inl ⟨by rfl, by intro w hSw; have hS0 := hSw; have y00 := hS0.cell (j := 0) rfl; have y01 := hS0.cell (j := 1) rfl; go_simp⟩) hHeld ?_
            refine wpAnyH_take (i := 6) (v := .bool (Sl.endOk ls y2)) rfl (by kernel_rfl) (by kernel_rfl) (by kernel_rfl) (fun _ _ _ h => h) (Or.inl ⟨by rfl, by intro w hSw; have hS0 := hSw; have y00 := hS0.cell (j := 0) rfl; have y01 := hS0.cell (j := 1) rfl; go_simp⟩) hHeld ?_
            clear hHeld
            refine wpAnyH_ready (rs := [8]) (by kernel_rfl) (by decide) ?_
            refine AllReadyH.cons rfl (fun K11 hK11 => ?_) AllReadyH.nil
            have bt0 := bT.cell (j := 0) rfl
            have bt1 := bT.cell (j := 1) rfl
            have btz := bT.frozen
            have btl := bT.lt
            go_simp
            clear bt0 bt1 btz btl
            generalize hwz : World.setCell (World.setCell _ _ _) _ _ = wz_
            obtain rfl : wz_ = setL wo gT 0 [.slice A5 n5 c5, .slice A6 n6 c6] := hwz.symm
            clear hwz
            replace hq := hq.other HF bT (by omega) (by omega) 0 [.slice A5 n5 c5, .slice A6 n6 c6]
            have zS : (setL wo gT 0 [.slice A5 n5 c5, .slice A6 n6 c6]).heap.size = wo.heap.size := setL_size _ _ _ _
            replace o5 := (o5.box bT (by decide) 0 [.slice A5 n5 c5, .slice A6 n6 c6]).mono (Nat.le_refl _) (Nat.le_of_eq zS.symm)
            replace o6 := (o6.box bT (by decide) 0 [.slice A5 n5 c5, .slice A6 n6 c6]).mono (Nat.le_refl _) (Nat.le_of_eq zS.symm)
            replace bT := bT.setAll [.slice A5 n5 c5, .slice A6 n6 c6] rfl
            clear zS
            generalize setL wo _ 0 _ = wt at *
            refine hK11.out _ _ hq.q (fun _ => ?_)
            refine wpAnyH_ready (rs := [9]) (by kernel_rfl) (by decide) ?_
            refine AllReadyH.cons rfl (fun K12 hK12 => ?_) AllReadyH.nil
            go_simp
            refine hK12.out _ _ hq.q (fun _ => ?_)
            refine ⟨by kernel_rfl, ?_⟩
            go_wp2_with fail
            go_meet
            exact ⟨_, gT, y2, _, _, _, _, _, _, rfl, rfl, rfl, hq, hbT, bT, o5, o6⟩
        case rest =>
          obtain ⟨wx, gT, y, A5, A6, n5, c5, n6, c6, rfl, rfl, rfl, hq, zT, bT, o5, o6⟩ := hcut
          cases hk : Sl.endOk ls y
          · clear hk bT o5 o6
            have bq0 := hq.q.cell (j := 0) rfl
            have bq1 := hq.q.cell (j := 1) rfl
            have bqz := hq.q.frozen
            have bql := hq.q.lt
            go_wp2_with fail
            clear bq0 bq1 bqz bql
            go_roundw
            case rel => exact ⟨i + 1, p, ls, lw, _, _, _, _, _, _, by omega, by go_num, HGd, ⟨hq.h, hq.c.mono (by omega), hq.G, hq.r, hq.q, hq.os, hq.ow⟩⟩
            case measure => simp [intOf]
          · have HG2 := Lib.hid (Qu.good_ei HGd.out hk)
            clear hk
            have bt0 := bT.cell (j := 0) rfl
            have bt1 := bT.cell (j := 1) rfl
            have btz := bT.frozen
            have btl := bT.lt
            have bq0 := hq.q.cell (j := 0) rfl
            have bq1 := hq.q.cell (j := 1) rfl
            have bqz := hq.q.frozen
            have bql := hq.q.lt
            go_wp2_with fail
            clear bq0 bq1 bqz bql
            clear bt0 bt1 btz btl
            generalize hwz : World.setCell (World.setCell _ _ _) _ _ = wz_
            obtain rfl : wz_ = setL wx gQ 0 [.slice A5 n5 c5, .slice A6 n6 c6] := hwz.symm
            clear hwz
            replace hq := hq.store HF o5 o6
            generalize setL wx _ 0 _ = wS at *
            go_roundw
            case rel => exact ⟨i + 1, p, _, _, _, _, _, _, _, _, by omega, by go_num, HG2, ⟨hq.h, hq.c.mono (by omega), hq.G, hq.r, hq.q, hq.os, hq.ow⟩⟩
            case measure => simp [intOf]
    obtain rfl : i = m := by omega
    subst hz
    have HFt := Lib.hid (Qu.good_fit HGd.out)
    obtain rfl : n0 = 4 := by have := hq.os.rd.n_eq.1; rw [this]; exact HFt.out.2.1
    have hn8 : n1 ≤ 8 := by have := hq.ow.rd.n_eq.1; rw [this]; exact HFt.out.2.2
    have hnw := Lib.hid hq.ow.rd.n_eq.1
    have bq0 := hq.q.cell (j := 0) rfl
    have bq1 := hq.q.cell (j := 1) rfl
    have bqz := hq.q.frozen
    have bql := hq.q.lt
    go_wp2_with fail
    clear bq0 bq1 bqz bql
    refine (pick_any g _ _ l 24 _ hq.h (DQ.hle HF hq) hg hq.c (by omega) (by omega)).mono ?_; rintro q_ wp_z1 ⟨z1, rfl, z1_0, z1_1, gg, kk⟩
    replace hq := hq.pick HF gg kk
    clear gg kk
    by_cases h0 : z1 = 0
    rotate_left
    by_cases h1 : z1 = 1
    rotate_left
    by_cases h2 : z1 = 2
    rotate_left
    · have h0b : (z1 == 0) = false := by rw [beq_eq_false_iff_ne]; exact h0
      have h1b : (z1 == 1) = false := by rw [beq_eq_false_iff_ne]; exact h1
      have h2b : (z1 == 2) = false := by rw [beq_eq_false_iff_ne]; exact h2
      have bq0 := hq.q.cell (j := 0) rfl
      have bq1 := hq.q.cell (j := 1) rfl
      have bqz := hq.q.frozen
      have bql := hq.q.lt
      have br0 := hq.r.cell (j := 0) rfl
      have br1 := hq.r.cell (j := 1) rfl
      have brz := hq.r.frozen
      have brl := hq.r.lt
      go_wp2_with fail
      clear br0 br1 brz brl
      clear bq0 bq1 bqz bql
      generalize hwz : World.setCell (World.setCell _ _ _) _ _ = wz_
      obtain rfl : wz_ = setL wp_z1 (w.heap.size) 0 [.slice A0 4 c0, .slice A1 n1 c1] := hwz.symm
      clear hwz
      have o1 := hq.os.box hq.r (by decide) 0 [.slice A0 4 c0, .slice A1 n1 c1]
      have o2 := hq.ow.box hq.r (by decide) 0 [.slice A0 4 c0, .slice A1 n1 c1]
      have gS := setL_grown [.slice A0 4 c0, .slice A1 n1 c1] wp_z1 (w.heap.size) 0
      have hG := grown_new hq.G gS (fun q e => by injection e with e; omega)
      have hc := hq.c.other gS (by omega)
      have bR := hq.r.setAll [.slice A0 4 c0, .slice A1 n1 c1] rfl
      have zS : (setL wp_z1 (w.heap.size) 0 [.slice A0 4 c0, .slice A1 n1 c1]).heap.size = wp_z1.heap.size := setL_size _ _ _ _
      generalize setL wp_z1 _ 0 _ = wE at *
      have u0_ := bR.cell (j := 0) rfl
      have u1_ := bR.cell (j := 1) rfl
      refine bodyPost_ret (by simp only [results, Tryz.results44]; simp [go_sem, u0_, u1_]; rfl) rfl ?_
      have F5 := (show ls.length ≤ 5 by have := HFt.out.2.1; omega)
      have F9 := (show lw.length ≤ 9 by have := HFt.out.2.2; omega)
      have O1 := o1.mono (Nat.le_refl _) (Nat.le_of_eq zS.symm)
      have O2 := o2.mono (Nat.le_refl _) (Nat.le_of_eq zS.symm)
      first | exact ⟨_, _, _, _, rfl, HFt.out.1, F5, F9, O1, O2, hG, hc.mono (by omega)⟩ | exact ⟨_, _, rfl, _, HFt.out.1, F5, _, F9, O1, O2, hG, hc.mono (by omega)⟩
    · subst h0
      have bq0 := hq.q.cell (j := 0) rfl
      have bq1 := hq.q.cell (j := 1) rfl
      have bqz := hq.q.frozen
      have bql := hq.q.lt
      go_wp2_with fail
      clear bq0 bq1 bqz bql
      have zb := hq.size
      refine (slots_any g _ _ l _ hq.h (DQ.hle HF hq) hg hq.c (by omega)).mono ?_; rintro q_ wo ⟨v5, l5, rfl, n5_, d5_, o5, gg, kk⟩
      obtain ⟨A5, n5, c5, rfl, _, _, _⟩ := o5.rd.form
      replace hq := hq.pick HF gg kk
      clear gg kk
      have bq0 := hq.q.cell (j := 0) rfl
      have bq1 := hq.q.cell (j := 1) rfl
      have bqz := hq.q.frozen
      have bql := hq.q.lt
      have br0 := hq.r.cell (j := 0) rfl
      have br1 := hq.r.cell (j := 1) rfl
      have brz := hq.r.frozen
      have brl := hq.r.lt
      go_upto_region 24 with fail
      clear br0 br1 brz brl bq0 bq1 bqz bql
      generalize hwz : World.setCell _ _ _ = wz_
      obtain rfl : wz_ = setL wo gQ 0 [.slice A5 n5 c5] := hwz.symm
      clear hwz
      replace hq := hq.store1 HF (o5.mono zb (Nat.le_refl _))
      generalize setL wo _ 0 _ = wS at *
      have bq0 := hq.q.cell (j := 0) rfl
      have bq1 := hq.q.cell (j := 1) rfl
      have bqz := hq.q.frozen
      have bql := hq.q.lt
      have br0 := hq.r.cell (j := 0) rfl
      have br1 := hq.r.cell (j := 1) rfl
      have brz := hq.r.frozen
      have brl := hq.r.lt
      go_wp2_with fail
      clear br0 br1 brz brl
      clear bq0 bq1 bqz bql
      generalize hwz : World.setCell (World.setCell _ _ _) _ _ = wz_
      obtain rfl : wz_ = setL wS (w.heap.size) 0 [.slice A5 n5 c5, .slice A1 n1 c1] := hwz.symm
      clear hwz
      have o1 := hq.os.box hq.r (by decide) 0 [.slice A5 n5 c5, .slice A1 n1 c1]
      have o2 := hq.ow.box hq.r (by decide) 0 [.slice A5 n5 c5, .slice A1 n1 c1]
      have gS := setL_grown [.slice A5 n5 c5, .slice A1 n1 c1] wS (w.heap.size) 0
      have hG := grown_new hq.G gS (fun q e => by injection e with e; omega)
      have hc := hq.c.other gS (by omega)
      have bR := hq.r.setAll [.slice A5 n5 c5, .slice A1 n1 c1] rfl
      have zS : (setL wS (w.heap.size) 0 [.slice A5 n5 c5, .slice A1 n1 c1]).heap.size = wS.heap.size := setL_size _ _ _ _
      generalize setL wS _ 0 _ = wE at *
      have u0_ := bR.cell (j := 0) rfl
      have u1_ := bR.cell (j := 1) rfl
      refine bodyPost_ret (by simp only [results, Tryz.results44]; simp [go_sem, u0_, u1_]; rfl) rfl ?_
      have F5 := n5_
      have F9 := (show lw.length ≤ 9 by have := HFt.out.2.2; omega)
      have O1 := o1.mono (Nat.le_refl _) (Nat.le_of_eq zS.symm)
      have O2 := o2.mono (Nat.le_refl _) (Nat.le_of_eq zS.symm)
      first | exact ⟨_, _, _, _, rfl, d5_, F5, F9, O1, O2, hG, hc.mono (by omega)⟩ | exact ⟨_, _, rfl, _, d5_, F5, _, F9, O1, O2, hG, hc.mono (by omega)⟩
    · subst h1
      have bq0 := hq.q.cell (j := 0) rfl
      have bq1 := hq.q.cell (j := 1) rfl
      have bqz := hq.q.frozen
      have bql := hq.q.lt
      go_upto_region 20 with fail
      clear bq0 bq1 bqz bql
      refine wp_region_held_drew (S := fun _ => True) (by kernel_rfl) trivial (fun hHeld => ?_)
      refine wpAnyH_take (i := 0) (v := .pointer (some ⟨gQ, 1, none⟩)) rfl (by kernel_rfl) (by kernel_rfl) (by kernel_rfl) (fun _ _ _ h => h) (Or.inl ⟨by rfl, by intro w hSw; go_simp⟩) hHeld ?_
      refine wpAnyH_take (i := 2) (v := .pointer (some ⟨g, 0, none⟩)) rfl (by kernel_rfl) (by kernel_rfl) (by kernel_rfl) (fun _ _ _ h => h) (Or.inl ⟨by rfl, by intro w hSw; go_simp⟩) hHeld ?_
      refine wpAnyH_take (i := 4) (v := .pointer (some ⟨g, 0, none⟩)) rfl (by kernel_rfl) (by kernel_rfl) (by kernel_rfl) (fun _ _ _ h => h) (Or.inl ⟨by rfl, by intro w hSw; go_simp⟩) hHeld ?_
      clear hHeld
      refine held_gen (F := fun W' => DQ w g cv l lo hi (k + 2 + 8 * i + 2) W' gQ (.slice A0 4 c0) (.slice A1 n1 c1) ls lw) (hq.below HF (Below.refl _ _).drew) ?_
      clear hq
      rintro wh hq
      refine wpAnyH_ready (rs := [1, 3]) (by kernel_rfl) (by decide) ?_
      refine AllReadyH.cons rfl (fun K13a hK13a => ?_) (AllReadyH.cons rfl (fun K13b hK13b => ?_) AllReadyH.nil)
      · have bq0 := hq.q.cell (j := 0) rfl
        have bq1 := hq.q.cell (j := 1) rfl
        have bqz := hq.q.frozen
        have bql := hq.q.lt
        go_simp
        clear bq0 bq1 bqz bql
        refine hK13a.out _ _ trivial (fun _ => ?_)
        refine wpAnyH_ready (rs := [3]) (by kernel_rfl) (by decide) ?_
        refine AllReadyH.cons rfl (fun K14 hK14 => ?_) AllReadyH.nil
        go_simp
        refine (irq_any g _ _ l _ hq.h (DQ.hle HF hq) hg hq.c (by omega)).mono ?_; rintro q_ w_yi ⟨yi, rfl, gg, kk⟩
        replace hq := hq.pick HF gg kk
        clear gg kk
        refine hK14.out _ _ trivial (fun _ => ?_)
        refine wpAnyH_ready (rs := [5]) (by kernel_rfl) (by decide) ?_
        refine AllReadyH.cons rfl (fun K15 hK15 => ?_) AllReadyH.nil
        go_simp
        refine (prio_any g _ _ l _ hq.h (DQ.hle HF hq) hg hq.c (by omega)).mono ?_; rintro q_ w_yp ⟨yp, rfl, gg, kk⟩
        replace hq := hq.pick HF gg kk
        clear gg kk
        refine hK15.out _ _ trivial (fun _ => ?_)
        have hHeld : (fun (_ : World) => True) w_yp := trivial
        refine wpAnyH_take (i := 6) (v := .agg #[.int .i64 yi, .int .i64 yp]) rfl (by kernel_rfl) (by kernel_rfl) (by kernel_rfl) (fun _ _ _ h => h) (Or.inl ⟨by rfl, by intro w hSw; go_simp⟩) hHeld ?_
        clear hHeld
        refine wpAnyH_ready (rs := [7]) (by kernel_rfl) (by decide) ?_
        refine AllReadyH.cons rfl (fun K16 hK16 => ?_) AllReadyH.nil
        go_simp
        have bb := (Below.refl w_yp.heap.size w_yp).alloc (Nat.le_refl _) (.cells #[.int .i64 yi, .int .i64 yp] 67)
        have bN := Box.new w_yp #[.int .i64 yi, .int .i64 yp] 67 rfl
        have hzN := hq.q.lt
        replace hq := hq.below HF bb
        clear bb
        generalize w_yp.alloc _ = wa at *
        generalize w_yp.heap.size = gN at *
        refine hK16.out _ _ trivial (fun _ => ?_)
        refine wpAnyH_ready (rs := [8]) (by kernel_rfl) (by decide) ?_
        refine AllReadyH.cons rfl (fun K17 hK17 => ?_) AllReadyH.nil
        refine Wt.appK_ow rfl _ _ rfl rfl hq.ow gN 1 ⟨yi, yp⟩ rfl (fun j u hu => by rcases j with _ | _ | j <;> simp [Wt.cells] at hu <;> subst hu <;> first | exact bN.cell (j := 0) rfl | exact bN.cell (j := 1) rfl) (by omega) hq.size (Nat.le_refl _) ?_
        intro v8 w8 row8 o8 g8 r8
        obtain ⟨A8, n8, c8, rfl, _, _, _⟩ := o8.rd.form
        have bq8 := hq.app_box g8 r8
        replace hq := hq.app HF g8 r8 o8
        refine hK17.out _ _ trivial (fun _ => ?_)
        have hHeld : (fun (_ : World) => True) w8 := trivial
        refine wpAnyH_take (i := 9) (v := .pointer (some ⟨gQ, 1, none⟩)) rfl (by kernel_rfl) (by kernel_rfl) (by kernel_rfl) (fun _ _ _ h => h) (Or.inl ⟨by rfl, by intro w hSw; go_simp⟩) hHeld ?_
        clear hHeld
        refine wpAnyH_ready (rs := [10]) (by kernel_rfl) (by decide) ?_
        refine AllReadyH.cons rfl (fun K18 hK18 => ?_) AllReadyH.nil
        have bq0 := bq8.cell (j := 0) rfl
        have bq1 := bq8.cell (j := 1) rfl
        have bqz := bq8.frozen
        have bql := bq8.lt
        go_simp
        clear bq0 bq1 bqz bql bq8
        generalize hwz : World.setCell _ _ _ = wz_
        obtain rfl : wz_ = setL w8 gQ 1 [.slice A8 n8 c8] := hwz.symm
        clear hwz
        generalize setL w8 _ 1 _ = wS at *
        refine hK18.out _ _ trivial (fun _ => ?_)
        refine ⟨by kernel_rfl, ?_⟩
        have bq0 := hq.q.cell (j := 0) rfl
        have bq1 := hq.q.cell (j := 1) rfl
        have bqz := hq.q.frozen
        have bql := hq.q.lt
        have br0 := hq.r.cell (j := 0) rfl
        have br1 := hq.r.cell (j := 1) rfl
        have brz := hq.r.frozen
        have brl := hq.r.lt
        go_wp2_with fail
        clear br0 br1 brz brl
        clear bq0 bq1 bqz bql
        generalize hwz : World.setCell (World.setCell _ _ _) _ _ = wz_
        obtain rfl : wz_ = setL wS (w.heap.size) 0 [.slice A0 4 c0, .slice A8 n8 c8] := hwz.symm
        clear hwz
        have o1 := hq.os.box hq.r (by decide) 0 [.slice A0 4 c0, .slice A8 n8 c8]
        have o2 := hq.ow.box hq.r (by decide) 0 [.slice A0 4 c0, .slice A8 n8 c8]
        have gS := setL_grown [.slice A0 4 c0, .slice A8 n8 c8] wS (w.heap.size) 0
        have hG := grown_new hq.G gS (fun q e => by injection e with e; omega)
        have hc := hq.c.other gS (by omega)
        have bR := hq.r.setAll [.slice A0 4 c0, .slice A8 n8 c8] rfl
        have zS : (setL wS (w.heap.size) 0 [.slice A0 4 c0, .slice A8 n8 c8]).heap.size = wS.heap.size := setL_size _ _ _ _
        generalize setL wS _ 0 _ = wE at *
        have u0_ := bR.cell (j := 0) rfl
        have u1_ := bR.cell (j := 1) rfl
        refine bodyPost_ret (by simp only [results, Tryz.results44]; simp [go_sem, u0_, u1_]; rfl) rfl ?_
        have F5 := (show ls.length ≤ 5 by have := HFt.out.2.1; omega)
        have F9 := (show (lw ++ [(⟨yi, yp⟩ : Wt)]).length ≤ 9 by have := HFt.out.2.2; simp; omega)
        have O1 := o1.mono (Nat.le_refl _) (Nat.le_of_eq zS.symm)
        have O2 := o2.mono (Nat.le_refl _) (Nat.le_of_eq zS.symm)
        first | exact ⟨_, _, _, _, rfl, HFt.out.1, F5, F9, O1, O2, hG, hc.mono (by omega)⟩ | exact ⟨_, _, rfl, _, HFt.out.1, F5, _, F9, O1, O2, hG, hc.mono (by omega)⟩
      · go_simp
        refine (irq_any g _ _ l _ hq.h (DQ.hle HF hq) hg hq.c (by omega)).mono ?_; rintro q_ w_yi ⟨yi, rfl, gg, kk⟩
        replace hq := hq.pick HF gg kk
        clear gg kk
        refine hK13b.out _ _ trivial (fun _ => ?_)
        refine wpAnyH_ready (rs := [1, 5]) (by kernel_rfl) (by decide) ?_
        refine AllReadyH.cons rfl (fun K19a hK19a => ?_) (AllReadyH.cons rfl (fun K19b hK19b => ?_) AllReadyH.nil)
        · have bq0 := hq.q.cell (j := 0) rfl
          have bq1 := hq.q.cell (j := 1) rfl
          have bqz := hq.q.frozen
          have bql := hq.q.lt
          go_simp
          clear bq0 bq1 bqz bql
          refine hK19a.out _ _ trivial (fun _ => ?_)
          refine wpAnyH_ready (rs := [5]) (by kernel_rfl) (by decide) ?_
          refine AllReadyH.cons rfl (fun K20 hK20 => ?_) AllReadyH.nil
          go_simp
          refine (prio_any g _ _ l _ hq.h (DQ.hle HF hq) hg hq.c (by omega)).mono ?_; rintro q_ w_yp ⟨yp, rfl, gg, kk⟩
          replace hq := hq.pick HF gg kk
          clear gg kk
          refine hK20.out _ _ trivial (fun _ => ?_)
          have hHeld : (fun (_ : World) => True) w_yp := trivial
          refine wpAnyH_take (i := 6) (v := .agg #[.int .i64 yi, .int .i64 yp]) rfl (by kernel_rfl) (by kernel_rfl) (by kernel_rfl) (fun _ _ _ h => h) (Or.inl ⟨by rfl, by intro w hSw; go_simp⟩) hHeld ?_
          clear hHeld
          refine wpAnyH_ready (rs := [7]) (by kernel_rfl) (by decide) ?_
          refine AllReadyH.cons rfl (fun K21 hK21 => ?_) AllReadyH.nil
          go_simp
          have bb := (Below.refl w_yp.heap.size w_yp).alloc (Nat.le_refl _) (.cells #[.int .i64 yi, .int .i64 yp] 67)
          have bN := Box.new w_yp #[.int .i64 yi, .int .i64 yp] 67 rfl
          have hzN := hq.q.lt
          replace hq := hq.below HF bb
          clear bb
          generalize w_yp.alloc _ = wa at *
          generalize w_yp.heap.size = gN at *
          refine hK21.out _ _ trivial (fun _ => ?_)
          refine wpAnyH_ready (rs := [8]) (by kernel_rfl) (by decide) ?_
          refine AllReadyH.cons rfl (fun K22 hK22 => ?_) AllReadyH.nil
          refine Wt.appK_ow rfl _ _ rfl rfl hq.ow gN 1 ⟨yi, yp⟩ rfl (fun j u hu => by rcases j with _ | _ | j <;> simp [Wt.cells] at hu <;> subst hu <;> first | exact bN.cell (j := 0) rfl | exact bN.cell (j := 1) rfl) (by omega) hq.size (Nat.le_refl _) ?_
          intro v8 w8 row8 o8 g8 r8
          obtain ⟨A8, n8, c8, rfl, _, _, _⟩ := o8.rd.form
          have bq8 := hq.app_box g8 r8
          replace hq := hq.app HF g8 r8 o8
          refine hK22.out _ _ trivial (fun _ => ?_)
          have hHeld : (fun (_ : World) => True) w8 := trivial
          refine wpAnyH_take (i := 9) (v := .pointer (some ⟨gQ, 1, none⟩)) rfl (by kernel_rfl) (by kernel_rfl) (by kernel_rfl) (fun _ _ _ h => h) (Or.inl ⟨by rfl, by intro w hSw; go_simp⟩) hHeld ?_
          clear hHeld
          refine wpAnyH_ready (rs := [10]) (by kernel_rfl) (by decide) ?_
          refine AllReadyH.cons rfl (fun K23 hK23 => ?_) AllReadyH.nil
          have bq0 := bq8.cell (j := 0) rfl
          have bq1 := bq8.cell (j := 1) rfl
          have bqz := bq8.frozen
          have bql := bq8.lt
          go_simp
          clear bq0 bq1 bqz bql bq8
          generalize hwz : World.setCell _ _ _ = wz_
          obtain rfl : wz_ = setL w8 gQ 1 [.slice A8 n8 c8] := hwz.symm
          clear hwz
          generalize setL w8 _ 1 _ = wS at *
          refine hK23.out _ _ trivial (fun _ => ?_)
          refine ⟨by kernel_rfl, ?_⟩
          have bq0 := hq.q.cell (j := 0) rfl
          have bq1 := hq.q.cell (j := 1) rfl
          have bqz := hq.q.frozen
          have bql := hq.q.lt
          have br0 := hq.r.cell (j := 0) rfl
          have br1 := hq.r.cell (j := 1) rfl
          have brz := hq.r.frozen
          have brl := hq.r.lt
          go_wp2_with fail
          clear br0 br1 brz brl
          clear bq0 bq1 bqz bql
          generalize hwz : World.setCell (World.setCell _ _ _) _ _ = wz_
          obtain rfl : wz_ = setL wS (w.heap.size) 0 [.slice A0 4 c0, .slice A8 n8 c8] := hwz.symm
          clear hwz
          have o1 := hq.os.box hq.r (by decide) 0 [.slice A0 4 c0, .slice A8 n8 c8]
          have o2 := hq.ow.box hq.r (by decide) 0 [.slice A0 4 c0, .slice A8 n8 c8]
          have gS := setL_grown [.slice A0 4 c0, .slice A8 n8 c8] wS (w.heap.size) 0
          have hG := grown_new hq.G gS (fun q e => by injection e with e; omega)
          have hc := hq.c.other gS (by omega)
          have bR := hq.r.setAll [.slice A0 4 c0, .slice A8 n8 c8] rfl
          have zS : (setL wS (w.heap.size) 0 [.slice A0 4 c0, .slice A8 n8 c8]).heap.size = wS.heap.size := setL_size _ _ _ _
          generalize setL wS _ 0 _ = wE at *
          have u0_ := bR.cell (j := 0) rfl
          have u1_ := bR.cell (j := 1) rfl
          refine bodyPost_ret (by simp only [results, Tryz.results44]; simp [go_sem, u0_, u1_]; rfl) rfl ?_
          have F5 := (show ls.length ≤ 5 by have := HFt.out.2.1; omega)
          have F9 := (show (lw ++ [(⟨yi, yp⟩ : Wt)]).length ≤ 9 by have := HFt.out.2.2; simp; omega)
          have O1 := o1.mono (Nat.le_refl _) (Nat.le_of_eq zS.symm)
          have O2 := o2.mono (Nat.le_refl _) (Nat.le_of_eq zS.symm)
          first | exact ⟨_, _, _, _, rfl, HFt.out.1, F5, F9, O1, O2, hG, hc.mono (by omega)⟩ | exact ⟨_, _, rfl, _, HFt.out.1, F5, _, F9, O1, O2, hG, hc.mono (by omega)⟩
        · go_simp
          refine (prio_any g _ _ l _ hq.h (DQ.hle HF hq) hg hq.c (by omega)).mono ?_; rintro q_ w_yp ⟨yp, rfl, gg, kk⟩
          replace hq := hq.pick HF gg kk
          clear gg kk
          refine hK19b.out _ _ trivial (fun _ => ?_)
          have hHeld : (fun (_ : World) => True) w_yp := trivial
          refine wpAnyH_take (i := 6) (v := .agg #[.int .i64 yi, .int .i64 yp]) rfl (by kernel_rfl) (by kernel_rfl) (by kernel_rfl) (fun _ _ _ h => h) (Or.inl ⟨by rfl, by intro w hSw; go_simp⟩) hHeld ?_
          clear hHeld
          refine wpAnyH_ready (rs := [1, 7]) (by kernel_rfl) (by decide) ?_
          refine AllReadyH.cons rfl (fun K24a hK24a => ?_) (AllReadyH.cons rfl (fun K24b hK24b => ?_) AllReadyH.nil)
          · have bq0 := hq.q.cell (j := 0) rfl
            have bq1 := hq.q.cell (j := 1) rfl
            have bqz := hq.q.frozen
            have bql := hq.q.lt
            go_simp
            clear bq0 bq1 bqz bql
            refine hK24a.out _ _ trivial (fun _ => ?_)
            refine wpAnyH_ready (rs := [7]) (by kernel_rfl) (by decide) ?_
            refine AllReadyH.cons rfl (fun K25 hK25 => ?_) AllReadyH.nil
            go_simp
            have bb := (Below.refl w_yp.heap.size w_yp).alloc (Nat.le_refl _) (.cells #[.int .i64 yi, .int .i64 yp] 67)
            have bN := Box.new w_yp #[.int .i64 yi, .int .i64 yp] 67 rfl
            have hzN := hq.q.lt
            replace hq := hq.below HF bb
            clear bb
            generalize w_yp.alloc _ = wa at *
            generalize w_yp.heap.size = gN at *
            refine hK25.out _ _ trivial (fun _ => ?_)
            refine wpAnyH_ready (rs := [8]) (by kernel_rfl) (by decide) ?_
            refine AllReadyH.cons rfl (fun K26 hK26 => ?_) AllReadyH.nil
            refine Wt.appK_ow rfl _ _ rfl rfl hq.ow gN 1 ⟨yi, yp⟩ rfl (fun j u hu => by rcases j with _ | _ | j <;> simp [Wt.cells] at hu <;> subst hu <;> first | exact bN.cell (j := 0) rfl | exact bN.cell (j := 1) rfl) (by omega) hq.size (Nat.le_refl _) ?_
            intro v8 w8 row8 o8 g8 r8
            obtain ⟨A8, n8, c8, rfl, _, _, _⟩ := o8.rd.form
            have bq8 := hq.app_box g8 r8
            replace hq := hq.app HF g8 r8 o8
            refine hK26.out _ _ trivial (fun _ => ?_)
            have hHeld : (fun (_ : World) => True) w8 := trivial
            refine wpAnyH_take (i := 9) (v := .pointer (some ⟨gQ, 1, none⟩)) rfl (by kernel_rfl) (by kernel_rfl) (by kernel_rfl) (fun _ _ _ h => h) (Or.inl ⟨by rfl, by intro w hSw; go_simp⟩) hHeld ?_
            clear hHeld
            refine wpAnyH_ready (rs := [10]) (by kernel_rfl) (by decide) ?_
            refine AllReadyH.cons rfl (fun K27 hK27 => ?_) AllReadyH.nil
            have bq0 := bq8.cell (j := 0) rfl
            have bq1 := bq8.cell (j := 1) rfl
            have bqz := bq8.frozen
            have bql := bq8.lt
            go_simp
            clear bq0 bq1 bqz bql bq8
            generalize hwz : World.setCell _ _ _ = wz_
            obtain rfl : wz_ = setL w8 gQ 1 [.slice A8 n8 c8] := hwz.symm
            clear hwz
            generalize setL w8 _ 1 _ = wS at *
            refine hK27.out _ _ trivial (fun _ => ?_)
            refine ⟨by kernel_rfl, ?_⟩
            have bq0 := hq.q.cell (j := 0) rfl
            have bq1 := hq.q.cell (j := 1) rfl
            have bqz := hq.q.frozen
            have bql := hq.q.lt
            have br0 := hq.r.cell (j := 0) rfl
            have br1 := hq.r.cell (j := 1) rfl
            have brz := hq.r.frozen
            have brl := hq.r.lt
            go_wp2_with fail
            clear br0 br1 brz brl
            clear bq0 bq1 bqz bql
            generalize hwz : World.setCell (World.setCell _ _ _) _ _ = wz_
            obtain rfl : wz_ = setL wS (w.heap.size) 0 [.slice A0 4 c0, .slice A8 n8 c8] := hwz.symm
            clear hwz
            have o1 := hq.os.box hq.r (by decide) 0 [.slice A0 4 c0, .slice A8 n8 c8]
            have o2 := hq.ow.box hq.r (by decide) 0 [.slice A0 4 c0, .slice A8 n8 c8]
            have gS := setL_grown [.slice A0 4 c0, .slice A8 n8 c8] wS (w.heap.size) 0
            have hG := grown_new hq.G gS (fun q e => by injection e with e; omega)
            have hc := hq.c.other gS (by omega)
            have bR := hq.r.setAll [.slice A0 4 c0, .slice A8 n8 c8] rfl
            have zS : (setL wS (w.heap.size) 0 [.slice A0 4 c0, .slice A8 n8 c8]).heap.size = wS.heap.size := setL_size _ _ _ _
            generalize setL wS _ 0 _ = wE at *
            have u0_ := bR.cell (j := 0) rfl
            have u1_ := bR.cell (j := 1) rfl
            refine bodyPost_ret (by simp only [results, Tryz.results44]; simp [go_sem, u0_, u1_]; rfl) rfl ?_
            have F5 := (show ls.length ≤ 5 by have := HFt.out.2.1; omega)
            have F9 := (show (lw ++ [(⟨yi, yp⟩ : Wt)]).length ≤ 9 by have := HFt.out.2.2; simp; omega)
            have O1 := o1.mono (Nat.le_refl _) (Nat.le_of_eq zS.symm)
            have O2 := o2.mono (Nat.le_refl _) (Nat.le_of_eq zS.symm)
            first | exact ⟨_, _, _, _, rfl, HFt.out.1, F5, F9, O1, O2, hG, hc.mono (by omega)⟩ | exact ⟨_, _, rfl, _, HFt.out.1, F5, _, F9, O1, O2, hG, hc.mono (by omega)⟩
          · go_simp
            have bb := (Below.refl w_yp.heap.size w_yp).alloc (Nat.le_refl _) (.cells #[.int .i64 yi, .int .i64 yp] 67)
            have bN := Box.new w_yp #[.int .i64 yi, .int .i64 yp] 67 rfl
            have hzN := hq.q.lt
            replace hq := hq.below HF bb
            clear bb
            generalize w_yp.alloc _ = wa at *
            generalize w_yp.heap.size = gN at *
            refine hK24b.out _ _ trivial (fun _ => ?_)
            refine wpAnyH_ready (rs := [1]) (by kernel_rfl) (by decide) ?_
            refine AllReadyH.cons rfl (fun K28 hK28 => ?_) AllReadyH.nil
            have bq0 := hq.q.cell (j := 0) rfl
            have bq1 := hq.q.cell (j := 1) rfl
            have bqz := hq.q.frozen
            have bql := hq.q.lt
            go_simp
            clear bq0 bq1 bqz bql
            refine hK28.out _ _ trivial (fun _ => ?_)
            refine wpAnyH_ready (rs := [8]) (by kernel_rfl) (by decide) ?_
            refine AllReadyH.cons rfl (fun K29 hK29 => ?_) AllReadyH.nil
            refine Wt.appK_ow rfl _ _ rfl rfl hq.ow gN 1 ⟨yi, yp⟩ rfl (fun j u hu => by rcases j with _ | _ | j <;> simp [Wt.cells] at hu <;> subst hu <;> first | exact bN.cell (j := 0) rfl | exact bN.cell (j := 1) rfl) (by omega) hq.size (Nat.le_refl _) ?_
            intro v8 w8 row8 o8 g8 r8
            obtain ⟨A8, n8, c8, rfl, _, _, _⟩ := o8.rd.form
            have bq8 := hq.app_box g8 r8
            replace hq := hq.app HF g8 r8 o8
            refine hK29.out _ _ trivial (fun _ => ?_)
            have hHeld : (fun (_ : World) => True) w8 := trivial
            refine wpAnyH_take (i := 9) (v := .pointer (some ⟨gQ, 1, none⟩)) rfl (by kernel_rfl) (by kernel_rfl) (by kernel_rfl) (fun _ _ _ h => h) (Or.inl ⟨by rfl, by intro w hSw; go_simp⟩) hHeld ?_
            clear hHeld
            refine wpAnyH_ready (rs := [10]) (by kernel_rfl) (by decide) ?_
            refine AllReadyH.cons rfl (fun K30 hK30 => ?_) AllReadyH.nil
            have bq0 := bq8.cell (j := 0) rfl
            have bq1 := bq8.cell (j := 1) rfl
            have bqz := bq8.frozen
            have bql := bq8.lt
            go_simp
            clear bq0 bq1 bqz bql bq8
            generalize hwz : World.setCell _ _ _ = wz_
            obtain rfl : wz_ = setL w8 gQ 1 [.slice A8 n8 c8] := hwz.symm
            clear hwz
            generalize setL w8 _ 1 _ = wS at *
            refine hK30.out _ _ trivial (fun _ => ?_)
            refine ⟨by kernel_rfl, ?_⟩
            have bq0 := hq.q.cell (j := 0) rfl
            have bq1 := hq.q.cell (j := 1) rfl
            have bqz := hq.q.frozen
            have bql := hq.q.lt
            have br0 := hq.r.cell (j := 0) rfl
            have br1 := hq.r.cell (j := 1) rfl
            have brz := hq.r.frozen
            have brl := hq.r.lt
            go_wp2_with fail
            clear br0 br1 brz brl
            clear bq0 bq1 bqz bql
            generalize hwz : World.setCell (World.setCell _ _ _) _ _ = wz_
            obtain rfl : wz_ = setL wS (w.heap.size) 0 [.slice A0 4 c0, .slice A8 n8 c8] := hwz.symm
            clear hwz
            have o1 := hq.os.box hq.r (by decide) 0 [.slice A0 4 c0, .slice A8 n8 c8]
            have o2 := hq.ow.box hq.r (by decide) 0 [.slice A0 4 c0, .slice A8 n8 c8]
            have gS := setL_grown [.slice A0 4 c0, .slice A8 n8 c8] wS (w.heap.size) 0
            have hG := grown_new hq.G gS (fun q e => by injection e with e; omega)
            have hc := hq.c.other gS (by omega)
            have bR := hq.r.setAll [.slice A0 4 c0, .slice A8 n8 c8] rfl
            have zS : (setL wS (w.heap.size) 0 [.slice A0 4 c0, .slice A8 n8 c8]).heap.size = wS.heap.size := setL_size _ _ _ _
            generalize setL wS _ 0 _ = wE at *
            have u0_ := bR.cell (j := 0) rfl
            have u1_ := bR.cell (j := 1) rfl
            refine bodyPost_ret (by simp only [results, Tryz.results44]; simp [go_sem, u0_, u1_]; rfl) rfl ?_
            have F5 := (show ls.length ≤ 5 by have := HFt.out.2.1; omega)
            have F9 := (show (lw ++ [(⟨yi, yp⟩ : Wt)]).length ≤ 9 by have := HFt.out.2.2; simp; omega)
            have O1 := o1.mono (Nat.le_refl _) (Nat.le_of_eq zS.symm)
            have O2 := o2.mono (Nat.le_refl _) (Nat.le_of_eq zS.symm)
            first | exact ⟨_, _, _, _, rfl, HFt.out.1, F5, F9, O1, O2, hG, hc.mono (by omega)⟩ | exact ⟨_, _, rfl, _, HFt.out.1, F5, _, F9, O1, O2, hG, hc.mono (by omega)⟩
    · subst h2
      have bq0 := hq.q.cell (j := 0) rfl
      have bq1 := hq.q.cell (j := 1) rfl
      have bqz := hq.q.frozen
      have bql := hq.q.lt
      rcases Nat.eq_zero_or_pos n1 with hn1 | hn1
      · subst hn1
        have br0 := hq.r.cell (j := 0) rfl
        have br1 := hq.r.cell (j := 1) rfl
        have brz := hq.r.frozen
        have brl := hq.r.lt
        go_wp2_with fail
        clear br0 br1 brz brl
        generalize hwz : World.setCell (World.setCell _ _ _) _ _ = wz_
        obtain rfl : wz_ = setL wp_z1 (w.heap.size) 0 [.slice A0 4 c0, .slice A1 0 c1] := hwz.symm
        clear hwz
        have o1 := hq.os.box hq.r (by decide) 0 [.slice A0 4 c0, .slice A1 0 c1]
        have o2 := hq.ow.box hq.r (by decide) 0 [.slice A0 4 c0, .slice A1 0 c1]
        have gS := setL_grown [.slice A0 4 c0, .slice A1 0 c1] wp_z1 (w.heap.size) 0
        have hG := grown_new hq.G gS (fun q e => by injection e with e; omega)
        have hc := hq.c.other gS (by omega)
        have bR := hq.r.setAll [.slice A0 4 c0, .slice A1 0 c1] rfl
        have zS : (setL wp_z1 (w.heap.size) 0 [.slice A0 4 c0, .slice A1 0 c1]).heap.size = wp_z1.heap.size := setL_size _ _ _ _
        generalize setL wp_z1 _ 0 _ = wE at *
        have u0_ := bR.cell (j := 0) rfl
        have u1_ := bR.cell (j := 1) rfl
        refine bodyPost_ret (by simp only [results, Tryz.results44]; simp [go_sem, u0_, u1_]; rfl) rfl ?_
        have F5 := (show ls.length ≤ 5 by have := HFt.out.2.1; omega)
        have F9 := (show lw.length ≤ 9 by have := HFt.out.2.2; omega)
        have O1 := o1.mono (Nat.le_refl _) (Nat.le_of_eq zS.symm)
        have O2 := o2.mono (Nat.le_refl _) (Nat.le_of_eq zS.symm)
        first | exact ⟨_, _, _, _, rfl, HFt.out.1, F5, F9, O1, O2, hG, hc.mono (by omega)⟩ | exact ⟨_, _, rfl, _, HFt.out.1, F5, _, F9, O1, O2, hG, hc.mono (by omega)⟩
      · have hnd : decide ((0 : Int) < (n1 : Int)) = true := decide_eq_true (by omega)
        go_upto_region 23 with fail
        clear bq0 bq1 bqz bql
        obtain ⟨b, off, t0, rfl, _, hbl, _, _⟩ := Sl.get hq.os.rd (show 0 < 4 by omega) (Below.refl wp_z1.heap.size wp_z1) (Nat.le_refl _)
        replace hq := hq.below HF (Below.refl _ _).drew
        have bq0 := hq.q.cell (j := 0) rfl
        have bq1 := hq.q.cell (j := 1) rfl
        have bqz := hq.q.frozen
        have bql := hq.q.lt
        go_region_with (go_at_call 56; refine (pick_any g _ _ l 4 _ hq.h (DQ.hle HF hq) hg hq.c (by omega) (by omega)).mono ?_; rintro q_ wq ⟨yj, rfl, yj_0, yj_1, gg, kk⟩; (replace hq := hq.pick HF gg kk); (obtain ⟨j4, rfl⟩ : ∃ j : Nat, yj = j := ⟨yj.toNat, by omega⟩); (have hj4 : j4 < 4 := by omega); (have hji : (j4 : Int) < 4 := by omega); (clear yj_0 yj_1); (have bq0 := hq.q.cell (j := 0) rfl); (have bq1 := hq.q.cell (j := 1) rfl); (have bqz := hq.q.frozen); (have bql := hq.q.lt); (obtain ⟨b', off', t, hAA, HT, _, hb2, f0, f1, f2⟩ := Sl.get hq.os.rd hj4 (Below.refl wq.heap.size wq) (Nat.le_refl _)); (injection hAA with hAA); (injection hAA with e1 e2); (subst e1); (subst e2); (have hfz := hq.os.frozen (by omega)))
        all_goals
          go_upto_region 24 with fail
          generalize hwz : World.setCell (World.setCell (World.setCell _ _ _) _ _) _ _ = wz_
          obtain rfl : wz_ = setL wq b (off + j4 * 3) (Sl.cells ⟨0, 0, 0⟩) := hwz.symm
          clear hwz f0 f1 f2 hfz
          replace hq := hq.slot HF (t' := ⟨0, 0, 0⟩) HT.out hj4 (by omega)
          generalize setL wq b _ _ = wS at *
          have bq0 := hq.q.cell (j := 0) rfl
          have bq1 := hq.q.cell (j := 1) rfl
          have bqz := hq.q.frozen
          have bql := hq.q.lt
          have br0 := hq.r.cell (j := 0) rfl
          have br1 := hq.r.cell (j := 1) rfl
          have brz := hq.r.frozen
          have brl := hq.r.lt
          go_wp2_with fail
          clear br0 br1 brz brl
          clear bq0 bq1 bqz bql
          generalize hwz : World.setCell (World.setCell _ _ _) _ _ = wz_
          obtain rfl : wz_ = setL wS (w.heap.size) 0 [.slice (some ⟨b, off, none⟩) 4 c0, .slice A1 n1 c1] := hwz.symm
          clear hwz
          have o1 := hq.os.box hq.r (by decide) 0 [.slice (some ⟨b, off, none⟩) 4 c0, .slice A1 n1 c1]
          have o2 := hq.ow.box hq.r (by decide) 0 [.slice (some ⟨b, off, none⟩) 4 c0, .slice A1 n1 c1]
          have gS := setL_grown [.slice (some ⟨b, off, none⟩) 4 c0, .slice A1 n1 c1] wS (w.heap.size) 0
          have hG := grown_new hq.G gS (fun q e => by injection e with e; omega)
          have hc := hq.c.other gS (by omega)
          have bR := hq.r.setAll [.slice (some ⟨b, off, none⟩) 4 c0, .slice A1 n1 c1] rfl
          have zS : (setL wS (w.heap.size) 0 [.slice (some ⟨b, off, none⟩) 4 c0, .slice A1 n1 c1]).heap.size = wS.heap.size := setL_size _ _ _ _
          generalize setL wS _ 0 _ = wE at *
          have u0_ := bR.cell (j := 0) rfl
          have u1_ := bR.cell (j := 1) rfl
          refine bodyPost_ret (by simp only [results, Tryz.results44]; simp [go_sem, u0_, u1_]; rfl) rfl ?_
          have F5 := (show (ls.set j4 ⟨0, 0, 0⟩).length ≤ 5 by rw [List.length_set]; have := HFt.out.2.1; omega)
          have F9 := (show lw.length ≤ 9 by have := HFt.out.2.2; omega)
          have O1 := o1.mono (Nat.le_refl _) (Nat.le_of_eq zS.symm)
          have O2 := o2.mono (Nat.le_refl _) (Nat.le_of_eq zS.symm)
          first | exact ⟨_, _, _, _, rfl, Sl.dis_set HFt.out.1 rfl j4, F5, F9, O1, O2, hG, hc.mono (by omega)⟩ | exact ⟨_, _, rfl, _, Sl.dis_set HFt.out.1 rfl j4, F5, _, F9, O1, O2, hG, hc.mono (by omega)⟩

end Go.Proofs.YtfpaafmckeeecaaGreat

/- The reference's Draw functions of the queues' laws: they return something, in new memory. No condition. -/
namespace Go.Proofs.YtfpaafmckeeecaaGreat
open Go.RowKit Go.ChangeShapes Go.WideShapes Go.Deep

set_option maxRecDepth 8000 in
set_option maxHeartbeats 2000000 in
theorem DrawIsQueue_any (cv : Value) (l : List UInt8) (w : World) {lo hi : Nat} (h : Rd By.cells 1 w lo hi cv l) (hh : hi ≤ w.heap.size) :
    Calls Tryz.prog 32 #[cv] w fun e w' => ∃ vs vw, ∃ ls : List Sl, ∃ lw : List Wt, e = .returned (.agg #[vs, vw]) ∧ ls.length ≤ 1048576 ∧ lw.length ≤ 1048576 ∧ Ow Sl.cells 3 76 w' w.heap.size w'.heap.size vs ls ∧ Ow Wt.cells 2 67 w' w.heap.size w'.heap.size vw lw ∧ Below w.heap.size w w' := by
  obtain ⟨Ac, nc, cc, rfl, _, _, _⟩ := h.form
  go_enter Tryz.func32, Tryz.ntmps32
  go_wp2_with fail
  have bR := Box.new w #[.slice none 0 0, .slice none 0 0] 27 rfl
  have hB := (Below.refl w.heap.size w).alloc (Nat.le_refl _) (.cells #[.slice none 0 0, .slice none 0 0] 27)
  have zr : (w.alloc (.cells #[.slice none 0 0, .slice none 0 0] 27)).heap.size = w.heap.size + 1 := by simp
  generalize w.alloc (.cells #[.slice none 0 0, .slice none 0 0] 27) = wR at *
  have bx := Box.new wR #[.slice Ac nc cc, .int .i64 0, .int .u64 0] 57 rfl
  have bl := (Below.refl wR.heap.size wR).alloc (Nat.le_refl _) (.cells #[.slice Ac nc cc, .int .i64 0, .int .u64 0] 57)
  replace bR := bR.below bl bR.lt
  replace hB := hB.alloc (by omega) (.cells #[.slice Ac nc cc, .int .i64 0, .int .u64 0] 57)
  have za : (wR.alloc (.cells #[.slice Ac nc cc, .int .i64 0, .int .u64 0] 57)).heap.size = wR.heap.size + 1 := by simp
  have hc : Cur (wR.alloc (.cells #[.slice Ac nc cc, .int .i64 0, .int .u64 0] 57)) wR.heap.size (.slice Ac nc cc) 0 := ⟨0, 0, Nat.le_refl _, Lib.hid (by unfold U64; omega), bx⟩
  have hg : wR.heap.size < lo ∨ hi ≤ wR.heap.size := .inr (by omega)
  replace h := h.below hB hh
  clear bx bl
  generalize wR.alloc _ = w0 at *
  generalize wR.heap.size = g at *
  rw [← zr]
  refine (queue_any g _ _ l w0 h (by omega) hg hc (by omega)).mono ?_; rintro q_ w1 ⟨v1, v2, l1, m1, rfl, d1, n1, n2, o1, o2, gg1, kk1⟩
  clear hc
  replace h := h.grown gg1 (by omega) (fun q e => by injection e with e; omega)
  replace bR := bR.keep (gg1.block _ bR.lt (fun e => by injection e with e; omega))
  replace hB := hB.grown gg1 (by omega) (fun q e => by injection e with e; omega)
  have z_2 := gg1.size
  clear gg1
  obtain ⟨A1, k1, c1, rfl, _, _, _⟩ := o1.rd.form
  obtain ⟨A2, k2, c2, rfl, _, _, _⟩ := o2.rd.form
  have bR_z := bR.frozen
  have bR_l := bR.lt
  have bR_0 := bR.cell (j := 0) rfl
  have bR_1 := bR.cell (j := 1) rfl
  go_wp2_with fail
  clear bR_z bR_l bR_0 bR_1
  generalize hwz : World.setCell (World.setCell _ _ _) _ _ = wz_
  obtain rfl : wz_ = setL w1 (w.heap.size) 0 [.slice A1 k1 c1, .slice A2 k2 c2] := hwz.symm
  clear hwz
  replace hB := setL_below hB [.slice A1 k1 c1, .slice A2 k2 c2] (w.heap.size) 0 (Nat.le_refl _)
  replace o1 := o1.box bR (by decide) 0 [.slice A1 k1 c1, .slice A2 k2 c2]
  replace o2 := o2.box bR (by decide) 0 [.slice A1 k1 c1, .slice A2 k2 c2]
  have zS : (setL w1 (w.heap.size) 0 [.slice A1 k1 c1, .slice A2 k2 c2]).heap.size = w1.heap.size := setL_size _ _ _ _
  replace bR := bR.setAll [.slice A1 k1 c1, .slice A2 k2 c2] rfl
  generalize setL w1 _ 0 _ = wZ at *
  have u0_ := bR.cell (j := 0) rfl
  have u1_ := bR.cell (j := 1) rfl
  refine bodyPost_ret (by simp only [results, Tryz.results32]; simp [go_sem, u0_, u1_]; rfl) rfl ?_
  exact ⟨_, _, _, _, rfl, by omega, by omega, o1.mono (by omega) (by omega), o2.mono (by omega) (by omega), hB⟩
set_option maxRecDepth 8000 in
set_option maxHeartbeats 2000000 in
theorem DrawOfferIrq_any (cv : Value) (l : List UInt8) (w : World) {lo hi : Nat} (h : Rd By.cells 1 w lo hi cv l) (hh : hi ≤ w.heap.size) :
    Calls Tryz.prog 16 #[cv] w fun e w' => ∃ vs vw, ∃ ls : List Sl, ∃ lw : List Wt, ∃ x y : Int, e = .returned (.tuple #[.agg #[vs, vw], .int .i64 x, .int .i64 y]) ∧ ls.length ≤ 1048576 ∧ lw.length ≤ 1048576 ∧ Ow Sl.cells 3 76 w' w.heap.size w'.heap.size vs ls ∧ Ow Wt.cells 2 67 w' w.heap.size w'.heap.size vw lw ∧ Below w.heap.size w w' := by
  obtain ⟨Ac, nc, cc, rfl, _, _, _⟩ := h.form
  go_enter Tryz.func16, Tryz.ntmps16
  go_wp2_with fail
  have bR := Box.new w #[.slice none 0 0, .slice none 0 0] 27 rfl
  have hB := (Below.refl w.heap.size w).alloc (Nat.le_refl _) (.cells #[.slice none 0 0, .slice none 0 0] 27)
  have zr : (w.alloc (.cells #[.slice none 0 0, .slice none 0 0] 27)).heap.size = w.heap.size + 1 := by simp
  generalize w.alloc (.cells #[.slice none 0 0, .slice none 0 0] 27) = wR at *
  have bx := Box.new wR #[.slice Ac nc cc, .int .i64 0, .int .u64 0] 57 rfl
  have bl := (Below.refl wR.heap.size wR).alloc (Nat.le_refl _) (.cells #[.slice Ac nc cc, .int .i64 0, .int .u64 0] 57)
  replace bR := bR.below bl bR.lt
  replace hB := hB.alloc (by omega) (.cells #[.slice Ac nc cc, .int .i64 0, .int .u64 0] 57)
  have za : (wR.alloc (.cells #[.slice Ac nc cc, .int .i64 0, .int .u64 0] 57)).heap.size = wR.heap.size + 1 := by simp
  have hc : Cur (wR.alloc (.cells #[.slice Ac nc cc, .int .i64 0, .int .u64 0] 57)) wR.heap.size (.slice Ac nc cc) 0 := ⟨0, 0, Nat.le_refl _, Lib.hid (by unfold U64; omega), bx⟩
  have hg : wR.heap.size < lo ∨ hi ≤ wR.heap.size := .inr (by omega)
  replace h := h.below hB hh
  clear bx bl
  generalize wR.alloc _ = w0 at *
  generalize wR.heap.size = g at *
  rw [← zr]
  refine (queue_any g _ _ l w0 h (by omega) hg hc (by omega)).mono ?_; rintro q_ w1 ⟨v1, v2, l1, m1, rfl, d1, n1, n2, o1, o2, gg1, kk1⟩
  clear hc
  replace h := h.grown gg1 (by omega) (fun q e => by injection e with e; omega)
  replace bR := bR.keep (gg1.block _ bR.lt (fun e => by injection e with e; omega))
  replace hB := hB.grown gg1 (by omega) (fun q e => by injection e with e; omega)
  have z_2 := gg1.size
  clear gg1
  obtain ⟨A1, k1, c1, rfl, _, _, _⟩ := o1.rd.form
  obtain ⟨A2, k2, c2, rfl, _, _, _⟩ := o2.rd.form
  have bR_z := bR.frozen
  have bR_l := bR.lt
  have bR_0 := bR.cell (j := 0) rfl
  have bR_1 := bR.cell (j := 1) rfl
  go_wp2_with fail
  clear bR_z bR_l bR_0 bR_1
  rw [← zr]
  refine (irq_any g _ _ l w1 h (by omega) hg kk1 (by omega)).mono ?_; rintro q_ w3 ⟨x1, rfl, gg3, kk3⟩
  clear kk1
  replace h := h.grown gg3 (by omega) (fun q e => by injection e with e; omega)
  replace o1 := o1.apart gg3 (fun q e => by injection e with e; omega)
  replace o2 := o2.apart gg3 (fun q e => by injection e with e; omega)
  replace bR := bR.keep (gg3.block _ bR.lt (fun e => by injection e with e; omega))
  replace hB := hB.grown gg3 (by omega) (fun q e => by injection e with e; omega)
  have z_4 := gg3.size
  clear gg3
  have bR_z := bR.frozen
  have bR_l := bR.lt
  have bR_0 := bR.cell (j := 0) rfl
  have bR_1 := bR.cell (j := 1) rfl
  go_wp2_with fail
  clear bR_z bR_l bR_0 bR_1
  rw [← zr]
  refine (prio_any g _ _ l w3 h (by omega) hg kk3 (by omega)).mono ?_; rintro q_ w5 ⟨x2, rfl, gg5, kk5⟩
  clear kk3
  replace h := h.grown gg5 (by omega) (fun q e => by injection e with e; omega)
  replace o1 := o1.apart gg5 (fun q e => by injection e with e; omega)
  replace o2 := o2.apart gg5 (fun q e => by injection e with e; omega)
  replace bR := bR.keep (gg5.block _ bR.lt (fun e => by injection e with e; omega))
  replace hB := hB.grown gg5 (by omega) (fun q e => by injection e with e; omega)
  have z_6 := gg5.size
  clear gg5
  have bR_z := bR.frozen
  have bR_l := bR.lt
  have bR_0 := bR.cell (j := 0) rfl
  have bR_1 := bR.cell (j := 1) rfl
  go_wp2_with fail
  clear bR_z bR_l bR_0 bR_1
  generalize hwz : World.setCell (World.setCell _ _ _) _ _ = wz_
  obtain rfl : wz_ = setL w5 (w.heap.size) 0 [.slice A1 k1 c1, .slice A2 k2 c2] := hwz.symm
  clear hwz
  replace hB := setL_below hB [.slice A1 k1 c1, .slice A2 k2 c2] (w.heap.size) 0 (Nat.le_refl _)
  replace o1 := o1.box bR (by decide) 0 [.slice A1 k1 c1, .slice A2 k2 c2]
  replace o2 := o2.box bR (by decide) 0 [.slice A1 k1 c1, .slice A2 k2 c2]
  have zS : (setL w5 (w.heap.size) 0 [.slice A1 k1 c1, .slice A2 k2 c2]).heap.size = w5.heap.size := setL_size _ _ _ _
  replace bR := bR.setAll [.slice A1 k1 c1, .slice A2 k2 c2] rfl
  generalize setL w5 _ 0 _ = wZ at *
  have u0_ := bR.cell (j := 0) rfl
  have u1_ := bR.cell (j := 1) rfl
  refine bodyPost_ret (by simp only [results, Tryz.results16]; simp [go_sem, u0_, u1_]; rfl) rfl ?_
  exact ⟨_, _, _, _, x1, x2, rfl, by omega, by omega, o1.mono (by omega) (by omega), o2.mono (by omega) (by omega), hB⟩
set_option maxRecDepth 8000 in
set_option maxHeartbeats 2000000 in
theorem DrawServeQueue_any (cv : Value) (l : List UInt8) (w : World) {lo hi : Nat} (h : Rd By.cells 1 w lo hi cv l) (hh : hi ≤ w.heap.size) :
    Calls Tryz.prog 6 #[cv] w fun e w' => ∃ vs vw, ∃ ls : List Sl, ∃ lw : List Wt, e = .returned (.agg #[vs, vw]) ∧ ls.length ≤ 1048576 ∧ lw.length ≤ 1048576 ∧ Ow Sl.cells 3 76 w' w.heap.size w'.heap.size vs ls ∧ Ow Wt.cells 2 67 w' w.heap.size w'.heap.size vw lw ∧ Below w.heap.size w w' := by
  go_enter Tryz.func6, Tryz.ntmps6
  go_wp2_with fail
  have bR := Box.new w #[.slice none 0 0, .slice none 0 0] 27 rfl
  have hB := (Below.refl w.heap.size w).alloc (Nat.le_refl _) (.cells #[.slice none 0 0, .slice none 0 0] 27)
  have zr : (w.alloc (.cells #[.slice none 0 0, .slice none 0 0] 27)).heap.size = w.heap.size + 1 := by simp
  replace h := h.below hB hh
  generalize w.alloc (.cells #[.slice none 0 0, .slice none 0 0] 27) = wR at *
  refine (DrawIsQueue_any cv l wR h (by omega)).mono ?_; rintro q_ w1 ⟨v1, v2, l1, m1, rfl, n1, n2, o1, o2, b1⟩
  obtain ⟨A1, k1, c1, rfl, _, _, _⟩ := o1.rd.form
  obtain ⟨A2, k2, c2, rfl, _, _, _⟩ := o2.rd.form
  replace bR := bR.below b1 bR.lt
  have z1 := b1.size
  replace hB := hB.trans (b1.mono (by omega))
  clear b1
  have bR_z := bR.frozen
  have bR_l := bR.lt
  have bR_0 := bR.cell (j := 0) rfl
  have bR_1 := bR.cell (j := 1) rfl
  go_wp2_with fail
  clear bR_z bR_l bR_0 bR_1
  generalize hwz : World.setCell (World.setCell _ _ _) _ _ = wz_
  obtain rfl : wz_ = setL w1 (w.heap.size) 0 [.slice A1 k1 c1, .slice A2 k2 c2] := hwz.symm
  clear hwz
  replace hB := setL_below hB [.slice A1 k1 c1, .slice A2 k2 c2] (w.heap.size) 0 (Nat.le_refl _)
  replace o1 := o1.box bR (by decide) 0 [.slice A1 k1 c1, .slice A2 k2 c2]
  replace o2 := o2.box bR (by decide) 0 [.slice A1 k1 c1, .slice A2 k2 c2]
  have zS : (setL w1 (w.heap.size) 0 [.slice A1 k1 c1, .slice A2 k2 c2]).heap.size = w1.heap.size := setL_size _ _ _ _
  replace bR := bR.setAll [.slice A1 k1 c1, .slice A2 k2 c2] rfl
  generalize setL w1 _ 0 _ = wZ at *
  have u0_ := bR.cell (j := 0) rfl
  have u1_ := bR.cell (j := 1) rfl
  refine bodyPost_ret (by simp only [results, Tryz.results6]; simp [go_sem, u0_, u1_]; rfl) rfl ?_
  exact ⟨_, _, _, _, rfl, by omega, by omega, o1.mono (by omega) (by omega), o2.mono (by omega) (by omega), hB⟩
set_option maxRecDepth 8000 in
set_option maxHeartbeats 8000000 in
theorem DrawSettleQueue_any (cv : Value) (l : List UInt8) (w : World) {lo hi : Nat} (h : Rd By.cells 1 w lo hi cv l) (hh : hi ≤ w.heap.size) :
    Calls Tryz.prog 20 #[cv] w fun e w' => ∃ vs vw, ∃ ls : List Sl, ∃ lw : List Wt, e = .returned (.tuple #[vs, vw]) ∧ ls.length ≤ 1048576 ∧ lw.length ≤ 1048576 ∧ Ow Sl.cells 3 76 w' w.heap.size w'.heap.size vs ls ∧ Ow Wt.cells 2 67 w' w.heap.size w'.heap.size vw lw ∧ Below w.heap.size w w' := by
  obtain ⟨Ac, nc, cc, rfl, _, _, _⟩ := h.form
  go_enter Tryz.func20, Tryz.ntmps20
  go_wp2_with fail
  have bx := Box.new w #[.slice Ac nc cc, .int .i64 0, .int .u64 0] 57 rfl
  have hB := (Below.refl w.heap.size w).alloc (Nat.le_refl _) (.cells #[.slice Ac nc cc, .int .i64 0, .int .u64 0] 57)
  have za : (w.alloc (.cells #[.slice Ac nc cc, .int .i64 0, .int .u64 0] 57)).heap.size = w.heap.size + 1 := by simp
  have hc : Cur (w.alloc (.cells #[.slice Ac nc cc, .int .i64 0, .int .u64 0] 57)) w.heap.size (.slice Ac nc cc) 0 := ⟨0, 0, Nat.le_refl _, Lib.hid (by unfold U64; omega), bx⟩
  have hg : w.heap.size < lo ∨ hi ≤ w.heap.size := .inr hh
  replace h := h.below hB hh
  clear bx
  generalize w.alloc _ = w0 at *
  generalize hgg : w.heap.size = g at *
  have HG := Lib.hid hgg
  clear hgg
  refine (slots_any g _ _ l w0 h (by omega) hg hc (by omega)).mono ?_; rintro q_ w1 ⟨v1, l1, rfl, n1, d1, o1, gg1, kk1⟩
  clear hc
  replace h := h.grown gg1 (by omega) (fun q e => by injection e with e; omega)
  replace hB := hB.grown gg1 (by omega) (fun q e => by injection e with e; omega)
  have z_2 := gg1.size
  clear gg1
  obtain ⟨A1, k1, c1, rfl, _, _, _⟩ := o1.rd.form
  have ga0 := grown_alloc w1 (.cells #[] 67)
  have za0 : (w1.alloc (.cells #[] 67)).heap.size = w1.heap.size + 1 := by simp
  have o2 : Ow Wt.cells 2 67 (w1.alloc (.cells #[] 67)) w1.heap.size (w1.alloc (.cells #[] 67)).heap.size (.slice (some ⟨w1.heap.size, 0, none⟩) 0 0) [] := Ow.lit0
  go_wp2_with fail
  replace kk1 := kk1.grown0 ga0
  replace h := h.grown ga0 (by omega) (fun q e => by cases e)
  replace o1 := o1.apart ga0 (fun q e => by cases e)
  replace hB := hB.grown ga0 (by omega) (fun q e => by cases e)
  have z_3 := ga0.size
  clear ga0
  generalize w1.alloc _ = wA at *
  generalize hK : w1.heap.size = K at *
  clear hK
  refine (pick_any g _ _ l 5 wA h (by omega) hg kk1 (by omega) (by omega)).mono ?_; rintro q_ w4 ⟨x1, rfl, x1_0, x1_1, gg4, kk4⟩
  clear kk1
  replace h := h.grown gg4 (by omega) (fun q e => by injection e with e; omega)
  replace o1 := o1.apart gg4 (fun q e => by injection e with e; omega)
  replace o2 := o2.apart gg4 (fun q e => by injection e with e; omega)
  replace hB := hB.grown gg4 (by omega) (fun q e => by injection e with e; omega)
  have z_5 := gg4.size
  clear gg4
  obtain ⟨m, rfl⟩ : ∃ m : Nat, x1 = m := ⟨x1.toNat, by omega⟩
  have hm5 : m < 5 := by omega
  clear x1_0 x1_1
  have hKg : g < K := by omega
  go_wp2_with fail
  go_loopw [6, 7] (fun v6 v7 wr => ∃ (i q n c : Nat) (A : Option Addr) (lw : List Wt), i + q = m ∧ v7 = .int .i64 q ∧ v6 = .slice A n c ∧ lw.length ≤ i ∧ Below g w wr ∧ Cur wr g (.slice Ac nc cc) (400 + 60 * i) ∧ K ≤ wr.heap.size ∧ Rd By.cells 1 wr lo hi (.slice Ac nc cc) l ∧ Ow Sl.cells 3 76 wr (g + 1) K (.slice A1 k1 c1) l1 ∧ Ow Wt.cells 2 67 wr K wr.heap.size (.slice A n c) lw) (fun _ v7 _ => (intOf v7).toNat)
  case atStart => exact ⟨0, m, _, _, _, [], by omega, rfl, rfl, Nat.le_refl _, hB, kk4.mono (by omega), by omega, h, o1.mono (by omega) (by omega), o2.mono (by omega) (by omega)⟩
  case round =>
    clear kk4 hB h o1 o2
    obtain ⟨i, q, n, c, A, lw, hiq, rfl, rfl, hlw, hB, hc, zw, h, o1, o2⟩ := hrel
    rcases Nat.eq_zero_or_pos q with hq | hq
    · obtain rfl : i = m := by omega
      subst hq
      go_wp2_with fail
      go_ret2
      rw [HG.out]
      exact ⟨_, _, l1, lw, rfl, by omega, by omega, o1.mono (by omega) (by omega), o2.mono (by omega) (by omega), hB⟩
    · obtain ⟨p, rfl⟩ : ∃ p, q = p + 1 := ⟨q - 1, by omega⟩
      have hqd : decide ((0 : Int) < ((p + 1 : Nat) : Int)) = true := decide_eq_true (by omega)
      go_wp2_with fail
      refine (irq_any g _ _ l wr h (by omega) hg hc (by omega)).mono ?_; rintro q_ w101 ⟨y1, rfl, gg101, kk101⟩
      clear hc
      replace h := h.grown gg101 (by omega) (fun q e => by injection e with e; omega)
      replace o1 := o1.apart gg101 (fun q e => by injection e with e; omega)
      replace o2 := o2.apart gg101 (fun q e => by injection e with e; omega)
      replace hB := hB.grown gg101 (by omega) (fun q e => by injection e with e; omega)
      have z_102 := gg101.size
      clear gg101
      go_wp2_with fail
      refine (prio_any g _ _ l w101 h (by omega) hg kk101 (by omega)).mono ?_; rintro q_ w103 ⟨y2, rfl, gg103, kk103⟩
      clear kk101
      replace h := h.grown gg103 (by omega) (fun q e => by injection e with e; omega)
      replace o1 := o1.apart gg103 (fun q e => by injection e with e; omega)
      replace o2 := o2.apart gg103 (fun q e => by injection e with e; omega)
      replace hB := hB.grown gg103 (by omega) (fun q e => by injection e with e; omega)
      have z_104 := gg103.size
      clear gg103
      go_wp2_with fail
      have bl := (Below.refl w103.heap.size w103).alloc (Nat.le_refl _) (.cells #[.int .i64 y1, .int .i64 y2] 67)
      have bN := Box.new w103 #[.int .i64 y1, .int .i64 y2] 67 rfl
      have gl := grown_below bl
      clear bl
      replace kk103 := kk103.grown0 gl
      replace h := h.grown gl (by omega) (fun q e => by cases e)
      replace o1 := o1.apart gl (fun q e => by cases e)
      replace o2 := o2.apart gl (fun q e => by cases e)
      replace hB := hB.grown gl (by omega) (fun q e => by cases e)
      have z_105 := gl.size
      clear gl
      generalize w103.alloc _ = wn at *
      generalize hN : w103.heap.size = gN at *
      have hgN : g < gN := by omega
      clear hN
      obtain ⟨fz, hfz⟩ : ∃ z, findIx (Sl.has y1) l1 = z := ⟨_, rfl⟩
      have cF := l8Find_any _ l1 y1 wn o1.rd (by omega)
      rw [hfz] at cF
      clear hfz
      refine (cF).mono ?_; rintro q_ w_ ⟨rfl, rfl⟩
      clear cF
      by_cases hf0 : fz < 0
      · have hf0b : decide (fz < 0) = true := decide_eq_true hf0
        have bN_z := bN.frozen
        have bN_l := bN.lt
        have bN_0 := bN.cell (j := 0) rfl
        have bN_1 := bN.cell (j := 1) rfl
        go_wp2_with fail
        clear bN_z bN_l bN_0 bN_1
        obtain ⟨fy, hfy⟩ : ∃ z, findIx (Wt.isI y1) lw = z := ⟨_, rfl⟩
        have cF := l9Has_any _ lw y1 wn o2.rd (by omega)
        rw [hfy] at cF
        clear hfy
        refine (cF).mono ?_; rintro q_ w_ ⟨rfl, rfl⟩
        clear cF
        by_cases hf1 : fy < 0
        · have hf1b : decide (fy < 0) = true := decide_eq_true hf1
          have bN_z := bN.frozen
          have bN_l := bN.lt
          have bN_0 := bN.cell (j := 0) rfl
          have bN_1 := bN.cell (j := 1) rfl
          go_wp2_with fail
          clear bN_z bN_l bN_0 bN_1
          have hlx : lw.length ≤ 1048576 := by omega
          refine (specWait_any _ lw ⟨y1, y2⟩ wn (o2.rd) (by omega) hlx).mono ?_; rintro q_ w106 ⟨v9, rfl, o9, bb106⟩
          have gb106 := grown_below bb106
          clear bb106
          replace kk103 := kk103.grown0 gb106
          replace h := h.grown gb106 (by omega) (fun q e => by cases e)
          replace o1 := o1.apart gb106 (fun q e => by cases e)
          replace o2 := o2.apart gb106 (fun q e => by cases e)
          replace bN := bN.keep (gb106.block _ bN.lt (fun e => by cases e))
          replace hB := hB.grown gb106 (by omega) (fun q e => by cases e)
          have z_107 := gb106.size
          clear gb106
          obtain ⟨A9, n9, c9, rfl, _, _, _⟩ := o9.rd.form
          have bN_z := bN.frozen
          have bN_l := bN.lt
          have bN_0 := bN.cell (j := 0) rfl
          have bN_1 := bN.cell (j := 1) rfl
          go_wp2_with fail
          clear bN_z bN_l bN_0 bN_1
          go_roundw
          case rel => exact ⟨i + 1, p, _, _, _, _, by omega, by go_num, rfl, by rw [Wt.ins_len]; omega, hB, kk103.mono (by omega), by omega, h, o1, o9.mono (by omega) (by omega)⟩
          case measure => simp [intOf]
        · have hf1b : decide (fy < 0) = false := decide_eq_false hf1
          have bN_z := bN.frozen
          have bN_l := bN.lt
          have bN_0 := bN.cell (j := 0) rfl
          have bN_1 := bN.cell (j := 1) rfl
          go_wp2_with fail
          clear bN_z bN_l bN_0 bN_1
          refine (one_any g _ _ l 16 wn h (by omega) hg kk103 (by omega) (by omega)).mono ?_; rintro q_ w106 ⟨b3, rfl, gg106, kk106⟩
          clear kk103
          replace h := h.grown gg106 (by omega) (fun q e => by injection e with e; omega)
          replace o1 := o1.apart gg106 (fun q e => by injection e with e; omega)
          replace o2 := o2.apart gg106 (fun q e => by injection e with e; omega)
          replace bN := bN.keep (gg106.block _ bN.lt (fun e => by injection e with e; omega))
          replace hB := hB.grown gg106 (by omega) (fun q e => by injection e with e; omega)
          have z_107 := gg106.size
          clear gg106
          cases b3
          · have bN_z := bN.frozen
            have bN_l := bN.lt
            have bN_0 := bN.cell (j := 0) rfl
            have bN_1 := bN.cell (j := 1) rfl
            go_wp2_with fail
            clear bN_z bN_l bN_0 bN_1
            go_roundw
            case rel => exact ⟨i + 1, p, _, _, _, lw, by omega, by go_num, rfl, by omega, hB, kk106.mono (by omega), by omega, h, o1, o2.mono (by omega) (by omega)⟩
            case measure => simp [intOf]
          · have bN_z := bN.frozen
            have bN_l := bN.lt
            have bN_0 := bN.cell (j := 0) rfl
            have bN_1 := bN.cell (j := 1) rfl
            go_wp2_with fail
            clear bN_z bN_l bN_0 bN_1
            have hlx : lw.length ≤ 1048576 := by omega
            refine (specWait_any _ lw ⟨y1, y2⟩ w106 (o2.rd) (by omega) hlx).mono ?_; rintro q_ w108 ⟨v9, rfl, o9, bb108⟩
            have gb108 := grown_below bb108
            clear bb108
            replace kk106 := kk106.grown0 gb108
            replace h := h.grown gb108 (by omega) (fun q e => by cases e)
            replace o1 := o1.apart gb108 (fun q e => by cases e)
            replace o2 := o2.apart gb108 (fun q e => by cases e)
            replace bN := bN.keep (gb108.block _ bN.lt (fun e => by cases e))
            replace hB := hB.grown gb108 (by omega) (fun q e => by cases e)
            have z_109 := gb108.size
            clear gb108
            obtain ⟨A9, n9, c9, rfl, _, _, _⟩ := o9.rd.form
            have bN_z := bN.frozen
            have bN_l := bN.lt
            have bN_0 := bN.cell (j := 0) rfl
            have bN_1 := bN.cell (j := 1) rfl
            go_wp2_with fail
            clear bN_z bN_l bN_0 bN_1
            go_roundw
            case rel => exact ⟨i + 1, p, _, _, _, _, by omega, by go_num, rfl, by rw [Wt.ins_len]; omega, hB, kk106.mono (by omega), by omega, h, o1, o9.mono (by omega) (by omega)⟩
            case measure => simp [intOf]
      · have hf0b : decide (fz < 0) = false := decide_eq_false hf0
        have bN_z := bN.frozen
        have bN_l := bN.lt
        have bN_0 := bN.cell (j := 0) rfl
        have bN_1 := bN.cell (j := 1) rfl
        go_wp2_with fail
        clear bN_z bN_l bN_0 bN_1
        refine (one_any g _ _ l 16 wn h (by omega) hg kk103 (by omega) (by omega)).mono ?_; rintro q_ w106 ⟨b3, rfl, gg106, kk106⟩
        clear kk103
        replace h := h.grown gg106 (by omega) (fun q e => by injection e with e; omega)
        replace o1 := o1.apart gg106 (fun q e => by injection e with e; omega)
        replace o2 := o2.apart gg106 (fun q e => by injection e with e; omega)
        replace bN := bN.keep (gg106.block _ bN.lt (fun e => by injection e with e; omega))
        replace hB := hB.grown gg106 (by omega) (fun q e => by injection e with e; omega)
        have z_107 := gg106.size
        clear gg106
        cases b3
        · have bN_z := bN.frozen
          have bN_l := bN.lt
          have bN_0 := bN.cell (j := 0) rfl
          have bN_1 := bN.cell (j := 1) rfl
          go_wp2_with fail
          clear bN_z bN_l bN_0 bN_1
          go_roundw
          case rel => exact ⟨i + 1, p, _, _, _, lw, by omega, by go_num, rfl, by omega, hB, kk106.mono (by omega), by omega, h, o1, o2.mono (by omega) (by omega)⟩
          case measure => simp [intOf]
        · have bN_z := bN.frozen
          have bN_l := bN.lt
          have bN_0 := bN.cell (j := 0) rfl
          have bN_1 := bN.cell (j := 1) rfl
          go_wp2_with fail
          clear bN_z bN_l bN_0 bN_1
          have hlx : lw.length ≤ 1048576 := by omega
          refine (specWait_any _ lw ⟨y1, y2⟩ w106 (o2.rd) (by omega) hlx).mono ?_; rintro q_ w108 ⟨v9, rfl, o9, bb108⟩
          have gb108 := grown_below bb108
          clear bb108
          replace kk106 := kk106.grown0 gb108
          replace h := h.grown gb108 (by omega) (fun q e => by cases e)
          replace o1 := o1.apart gb108 (fun q e => by cases e)
          replace o2 := o2.apart gb108 (fun q e => by cases e)
          replace bN := bN.keep (gb108.block _ bN.lt (fun e => by cases e))
          replace hB := hB.grown gb108 (by omega) (fun q e => by cases e)
          have z_109 := gb108.size
          clear gb108
          obtain ⟨A9, n9, c9, rfl, _, _, _⟩ := o9.rd.form
          have bN_z := bN.frozen
          have bN_l := bN.lt
          have bN_0 := bN.cell (j := 0) rfl
          have bN_1 := bN.cell (j := 1) rfl
          go_wp2_with fail
          clear bN_z bN_l bN_0 bN_1
          go_roundw
          case rel => exact ⟨i + 1, p, _, _, _, _, by omega, by go_num, rfl, by rw [Wt.ins_len]; omega, hB, kk106.mono (by omega), by omega, h, o1, o9.mono (by omega) (by omega)⟩
          case measure => simp [intOf]

end Go.Proofs.YtfpaafmckeeecaaGreat

/- A law's own comparison of two lists that read the same: it says so. No condition. -/
namespace Go.Proofs.YtfpaafmckeeecaaGreat
open Go.RowKit Go.ChangeShapes Go.WideShapes Go.Deep

theorem Sl.v_same (v1 v2 : Value) (l : List Sl) (w : World) {lo1 hi1 lo2 hi2 : Nat} (h1 : Rd Sl.cells 3 w lo1 hi1 v1 l) (h2 : Rd Sl.cells 3 w lo2 hi2 v2 l) (hh1 : hi1 ≤ w.heap.size) (hh2 : hi2 ≤ w.heap.size) :
    Calls Tryz.prog 53 #[v1, v2] w fun e w' => e = .returned (.bool true) ∧ Below w.heap.size w w' := by
  obtain ⟨A, n, c, rfl, H, hc, hm⟩ := h1.form
  obtain ⟨A2, n2, c2, rfl, H2, hc2, hm2⟩ := h2.form
  obtain rfl : n = n2 := by rw [H.out, H2.out]
  have hnd : ((n : Int) != (n : Int)) = false := by simp
  clear H H2
  go_enter Tryz.func53, Tryz.ntmps53
  go_wp2_with fail
  go_loopw [5] (fun i wr => ∃ k : Nat, k ≤ n ∧ i = .int .i64 k ∧ Below w.heap.size w wr) (fun i _ => n - (intOf i).toNat)
  case atStart => exact ⟨0, Nat.zero_le _, rfl, Below.refl _ _⟩
  case round =>
    obtain ⟨k, hk, rfl, hb⟩ := hrel
    by_cases hlt : k < n
    · obtain ⟨b, off, t, rfl, hx, _, _, f0, f1, f2⟩ := Sl.get h1 hlt hb hh1
      obtain ⟨b2, off2, t2, rfl, hy, _, _, g0, g1, g2⟩ := Sl.get h2 hlt hb hh2
      obtain rfl := Option.some.inj (hx.out.symm.trans hy.out)
      have hki : (k : Int) < (n : Int) := by omega
      clear hx hy
      go_wp2_with fail
      go_quiet (fail)
      go_wp2_with fail
      go_roundw
      case rel => exact ⟨k + 1, by omega, by go_num, below_drewN hb _⟩
      case measure => simp [intOf]; omega
    · go_wp2_with fail
      go_ret
      exact ⟨rfl, hb⟩

end Go.Proofs.YtfpaafmckeeecaaGreat

/- A law's own comparison of two lists that read the same: it says so. No condition. -/
namespace Go.Proofs.YtfpaafmckeeecaaGreat
open Go.RowKit Go.ChangeShapes Go.WideShapes Go.Deep

theorem Wt.v_same (v1 v2 : Value) (l : List Wt) (w : World) {lo1 hi1 lo2 hi2 : Nat} (h1 : Rd Wt.cells 2 w lo1 hi1 v1 l) (h2 : Rd Wt.cells 2 w lo2 hi2 v2 l) (hh1 : hi1 ≤ w.heap.size) (hh2 : hi2 ≤ w.heap.size) :
    Calls Tryz.prog 54 #[v1, v2] w fun e w' => e = .returned (.bool true) ∧ Below w.heap.size w w' := by
  obtain ⟨A, n, c, rfl, H, hc, hm⟩ := h1.form
  obtain ⟨A2, n2, c2, rfl, H2, hc2, hm2⟩ := h2.form
  obtain rfl : n = n2 := by rw [H.out, H2.out]
  have hnd : ((n : Int) != (n : Int)) = false := by simp
  clear H H2
  go_enter Tryz.func54, Tryz.ntmps54
  go_wp2_with fail
  go_loopw [5] (fun i wr => ∃ k : Nat, k ≤ n ∧ i = .int .i64 k ∧ Below w.heap.size w wr) (fun i _ => n - (intOf i).toNat)
  case atStart => exact ⟨0, Nat.zero_le _, rfl, Below.refl _ _⟩
  case round =>
    obtain ⟨k, hk, rfl, hb⟩ := hrel
    by_cases hlt : k < n
    · obtain ⟨b, off, t, rfl, hx, _, _, f0, f1⟩ := Wt.get h1 hlt hb hh1
      obtain ⟨b2, off2, t2, rfl, hy, _, _, g0, g1⟩ := Wt.get h2 hlt hb hh2
      obtain rfl := Option.some.inj (hx.out.symm.trans hy.out)
      have hki : (k : Int) < (n : Int) := by omega
      clear hx hy
      go_wp2_with fail
      go_quiet (fail)
      go_wp2_with fail
      go_roundw
      case rel => exact ⟨k + 1, by omega, by go_num, below_drewN hb _⟩
      case measure => simp [intOf]; omega
    · go_wp2_with fail
      go_ret
      exact ⟨rfl, hb⟩

end Go.Proofs.YtfpaafmckeeecaaGreat

/- The plain laws' own helpers over numbers: whether two lists that read the same are the same, whether a number is in a list, whether a code is long. No condition. -/
namespace Go.Proofs.YtfpaafmckeeecaaGreat
open Go.RowKit Go.ChangeShapes Go.WideShapes Go.Deep

theorem vInts_same (v1 v2 : Value) (l : List Int) (w : World) {lo1 hi1 lo2 hi2 : Nat} (h1 : Rd Nm.cells 1 w lo1 hi1 v1 l) (h2 : Rd Nm.cells 1 w lo2 hi2 v2 l) (hh1 : hi1 ≤ w.heap.size) (hh2 : hi2 ≤ w.heap.size) :
    Calls Tryz.prog 9 #[v1, v2] w fun e w' => e = .returned (.bool true) ∧ Below w.heap.size w w' := by
  obtain ⟨A, n, c, rfl, H, hc, hm⟩ := h1.form
  obtain ⟨A2, n2, c2, rfl, H2, hc2, hm2⟩ := h2.form
  obtain rfl : n = n2 := by rw [H.out, H2.out]
  have hnd : ((n : Int) != (n : Int)) = false := by simp
  clear H H2
  go_enter Tryz.func9, Tryz.ntmps9
  go_wp2_with fail
  go_loopw [5] (fun i wr => ∃ k : Nat, k ≤ n ∧ i = .int .i64 k ∧ Below w.heap.size w wr) (fun i _ => n - (intOf i).toNat)
  case atStart => exact ⟨0, Nat.zero_le _, rfl, Below.refl _ _⟩
  case round =>
    obtain ⟨k, hk, rfl, hb⟩ := hrel
    by_cases hlt : k < n
    · obtain ⟨b, off, t, rfl, hx, _, _, f0⟩ := Nm.get h1 hlt hb hh1
      obtain ⟨b2, off2, t2, rfl, hy, _, _, g0⟩ := Nm.get h2 hlt hb hh2
      obtain rfl := Option.some.inj (hx.out.symm.trans hy.out)
      have hki : (k : Int) < (n : Int) := by omega
      clear hx hy
      go_wp2_with fail
      go_quiet (fail)
      go_wp2_with fail
      go_roundw
      case rel => exact ⟨k + 1, by omega, by go_num, below_drewN hb _⟩
      case measure => simp [intOf]; omega
    · go_wp2_with fail
      go_ret
      exact ⟨rfl, hb⟩
theorem vHas_any (v : Value) (l : List Int) (x : Int) (w : World) {lo hi : Nat} (h : Rd Nm.cells 1 w lo hi v l) (hh : hi ≤ w.heap.size) :
    Calls Tryz.prog 15 #[v, .int .i64 x] w fun e w' => e = .returned (.bool (l.contains x)) ∧ w = w' := by
  obtain ⟨A, n, c, rfl, H, hc, hm⟩ := h.form
  go_enter Tryz.func15, Tryz.ntmps15
  go_wp2_with fail
  go_loop [5] (fun j => ∃ m : Nat, m ≤ n ∧ j = .int .i64 m ∧ (l.take m).contains x = false) (fun j => n - (intOf j).toNat)
  case atStart => exact ⟨0, Nat.zero_le _, rfl, by simp⟩
  case round =>
    obtain ⟨m, hk, rfl, hs⟩ := hrel
    have HS := Lib.hid hs
    clear hs
    by_cases hlt : m < n
    · obtain ⟨b, off, y, rfl, hy, _, hbl, f0⟩ := Nm.get h hlt (Below.refl w.heap.size w) hh
      by_cases hxy : y = x
      · have HF := Lib.hid (show l.contains x = true from by rw [List.contains_iff_mem]; rw [← hxy]; exact List.mem_of_getElem? hy.out)
        rw [hxy] at f0
        clear hxy
        go_wp2_with fail
        go_ret
        have := HF.out
        rw [List.contains_eq_mem] at this
        exact ⟨ret_bool this.symm, rfl⟩
      · have HF := Lib.hid (show (l.take (m + 1)).contains x = false from by
          rw [List.take_add_one, hy.out]
          have := HS.out
          simp only [List.contains_eq_mem, decide_eq_false_iff_not] at this ⊢
          simp [this, Ne.symm hxy])
        go_wp2_with fail
        go_round
        case rel => exact ⟨m + 1, by omega, by go_num, HF.out⟩
        case measure => simp [intOf]; omega
    · go_wp2_with fail
      go_ret
      have := HS.out
      rw [List.take_of_length_le (by rw [← H.out]; omega), List.contains_eq_mem] at this
      exact ⟨ret_bool this.symm, rfl⟩
theorem vBig_any (v : Value) (l : List UInt8) (w : World) {lo hi : Nat} (h : Rd By.cells 1 w lo hi v l) : Calls Tryz.prog 5 #[v] w fun e w' => e = .returned (.bool (decide (65536 < l.length))) ∧ w = w' := by
  obtain ⟨A, n, c, rfl, H, hc, hm⟩ := h.form
  have HN := H
  go_enter Tryz.func5, Tryz.ntmps5
  go_wp2_with fail
  go_ret
  exact ⟨ret_bool (by rw [← HN.out]; apply decide_eq_decide.2; omega), rfl⟩

end Go.Proofs.YtfpaafmckeeecaaGreat

/- The plain laws' comparisons of queues and interfaces that read the same: they say so. No condition. -/
namespace Go.Proofs.YtfpaafmckeeecaaGreat
open Go.RowKit Go.ChangeShapes Go.WideShapes Go.Deep

set_option maxHeartbeats 1000000 in
theorem vQueue_same (a1 a2 b1 b2 : Value) (ls : List Sl) (lw : List Wt) (w : World) {l1 h1 l2 h2 l3 h3 l4 h4 : Nat} (k1 : Rd Sl.cells 3 w l1 h1 a1 ls) (k2 : Rd Wt.cells 2 w l2 h2 a2 lw) (k3 : Rd Sl.cells 3 w l3 h3 b1 ls) (k4 : Rd Wt.cells 2 w l4 h4 b2 lw)
    (z1 : h1 ≤ w.heap.size) (z2 : h2 ≤ w.heap.size) (z3 : h3 ≤ w.heap.size) (z4 : h4 ≤ w.heap.size) :
    Calls Tryz.prog 19 #[.agg #[a1, a2], .agg #[b1, b2]] w fun e w' => e = .returned (.bool true) ∧ Below w.heap.size w w' := by
  have b0 : Below w.heap.size w ((w.alloc (.cells #[a1, a2] 27)).alloc (.cells #[b1, b2] 27)) := ((Below.refl w.heap.size w).alloc (Nat.le_refl _) _).alloc (by simp) _
  have z0 : ((w.alloc (.cells #[a1, a2] 27)).alloc (.cells #[b1, b2] 27)).heap.size = w.heap.size + 2 := by simp
  have e0 : ((w.alloc (.cells #[a1, a2] 27)).alloc (.cells #[b1, b2] 27)).cell? ⟨w.heap.size, 1, none⟩ = some a2 := by simp
  have e1 : ((w.alloc (.cells #[a1, a2] 27)).alloc (.cells #[b1, b2] 27)).cell? ⟨w.heap.size + 1, 1, none⟩ = some b2 := by simp
  have c1 := Sl.v_same a1 b1 ls _ (k1.below b0 z1) (k3.below b0 z3) (by omega) (by omega)
  have k2' := k2.below b0 z2
  have k4' := k4.below b0 z4
  clear k1 k2 k3 k4
  go_enter Tryz.func19, Tryz.ntmps19
  go_wp2_with fail
  generalize (w.alloc _).alloc _ = w0 at *
  refine c1.mono ?_; rintro e w1 ⟨rfl, b1⟩
  replace e0 := (b1.cell (p := ⟨w.heap.size, 1, none⟩) (by show w.heap.size < _; omega)).trans e0
  replace e1 := (b1.cell (p := ⟨w.heap.size + 1, 1, none⟩) (by show w.heap.size + 1 < _; omega)).trans e1
  have zz := b1.size
  have c2 := Wt.v_same a2 b2 lw w1 (k2'.below b1 (by omega)) (k4'.below b1 (by omega)) (by omega) (by omega)
  go_wp2_with fail
  refine c2.mono ?_; rintro e w2 ⟨rfl, b2⟩
  go_wp2_with fail
  go_ret
  exact ⟨rfl, b0.trans ((b1.mono (by omega)).trans (b2.mono (by omega)))⟩


end Go.Proofs.YtfpaafmckeeecaaGreat

/- All that is pending, in order: sorting gives what inserting one by one gives. No condition. -/
namespace Go.Proofs.YtfpaafmckeeecaaGreat

theorem Wt.pos_before {x : Wt} : ∀ {l : List Wt} {j : Nat} {y : Wt}, j < Wt.pos x l → l[j]? = some y → y.lt x = true
  | [], _, _, h, _ => by simp [Wt.pos] at h
  | z :: l, j, y, h, hy => by
    rw [Wt.pos] at h
    split at h
    · rename_i hz
      cases j with
      | zero => simp at hy; subst hy; exact hz
      | succ j => exact Wt.pos_before (l := l) (j := j) (by omega) (by simpa using hy)
    · omega
theorem Wt.pos_at {x : Wt} : ∀ {l : List Wt} {y : Wt}, l[Wt.pos x l]? = some y → y.lt x = false
  | [], _, h => by simp at h
  | z :: l, y, h => by
    rw [Wt.pos] at h
    split at h
    · exact Wt.pos_at (l := l) (by simpa using h)
    · rename_i hz
      simp at h; subst h
      simpa using hz
theorem insK_ins {l : List Wt} {x : Wt} (hs : l.Pairwise (fun a b => a.lt b = true)) (hn : ∀ y ∈ l, y.irq ≠ x.irq) : insK Wt.lt l x = Wt.ins l x := by
  have hb : bk Wt.lt x l = Wt.pos x l := by
    refine bk_eq x l _ (Wt.pos_le x l) (fun j y hj hy => ?_) (fun j y hj hy => ?_)
    · have hlt := (List.getElem?_eq_some_iff.1 hy).1
      have hp : l[Wt.pos x l]? = some l[Wt.pos x l] := List.getElem?_eq_getElem (by omega)
      have h1 := Wt.lt_other (x := l[Wt.pos x l]) (y := x) (by rw [Wt.pos_at hp]; simp) (hn _ (List.getElem_mem _))
      by_cases hjp : j = Wt.pos x l
      · subst hjp
        rw [hp] at hy; injection hy with hy; rw [← hy]; exact h1
      · have h2 := (List.pairwise_iff_getElem.1 hs) (Wt.pos x l) j (by omega) hlt (by omega)
        obtain ⟨_, e⟩ := List.getElem?_eq_some_iff.1 hy
        rw [e] at h2
        exact Wt.lt_trans h1 h2
    · exact Wt.lt_asymm (Wt.pos_before (x := x) (j := j) (by omega) hy)
  rw [insK, hb, Wt.ins]
theorem sortK_sorted {l : List Wt} (hs : l.Pairwise (fun a b => a.lt b = true)) : sortK Wt.lt l = l := by
  have key : ∀ k, k ≤ l.length → sortK Wt.lt (l.take k) = l.take k := by
    intro k
    induction k with
    | zero => intro _; simp [sortK]
    | succ k ih =>
      intro hk
      have hx : l[k]? = some l[k] := List.getElem?_eq_getElem (by omega)
      rw [sortK_pre hx, ih (by omega), List.take_add_one, hx]
      have hb : bk Wt.lt l[k] (l.take k) = (l.take k).length := by
        refine bk_eq _ _ _ (Nat.le_refl _) (fun j y hj hy => ?_) (fun j y hj hy => ?_)
        · rw [List.getElem?_eq_none hj] at hy; cases hy
        · rw [List.getElem?_take] at hy
          split at hy
          · rename_i hjk
            have h2 := (List.pairwise_iff_getElem.1 hs) j k (by omega) (by omega) hjk
            obtain ⟨_, e⟩ := List.getElem?_eq_some_iff.1 hy
            rw [e] at h2
            exact Wt.lt_asymm h2
          · cases hy
      rw [insK, hb, List.take_length, List.drop_length]
      rfl
  have := key l.length (Nat.le_refl _)
  rwa [List.take_length] at this
theorem fold_ins : ∀ (xs l : List Wt), l.Pairwise (fun a b => a.lt b = true) → l.Pairwise (fun a b => a.irq ≠ b.irq) → xs.Pairwise (fun a b => a.irq ≠ b.irq) → (∀ x ∈ xs, ∀ y ∈ l, y.irq ≠ x.irq) →
    xs.foldl (insK Wt.lt) l = xs.foldl Wt.ins l ∧ (xs.foldl Wt.ins l).Pairwise (fun a b => a.lt b = true) ∧ (xs.foldl Wt.ins l).Pairwise (fun a b => a.irq ≠ b.irq)
  | [], l, h1, h2, _, _ => ⟨rfl, h1, h2⟩
  | x :: xs, l, h1, h2, h3, h4 => by
    rw [List.pairwise_cons] at h3
    have hx := h4 x (by simp)
    rw [List.foldl_cons, List.foldl_cons, insK_ins h1 hx]
    exact fold_ins xs (Wt.ins l x) (Wt.ins_sorted h1 hx) (Wt.ins_irqs h2 hx) h3.2 (fun y hy z hz => by
      rcases Wt.ins_mem.1 hz with rfl | hz
      · exact h3.1 y hy
      · exact h4 y (by simp [hy]) z hz)
theorem fold_mem {y : Wt} : ∀ (xs l : List Wt), y ∈ xs.foldl Wt.ins l ↔ y ∈ xs ∨ y ∈ l
  | [], l => by simp
  | x :: xs, l => by
    rw [List.foldl_cons, fold_mem xs, Wt.ins_mem, List.mem_cons]
    constructor
    · rintro (h | h | h)
      · exact .inl (.inr h)
      · exact .inl (.inl h)
      · exact .inr h
    · rintro ((h | h) | h)
      · exact .inr (.inl h)
      · exact .inl h
      · exact .inr (.inr h)
theorem Sl.isPend_used {s : Sl} (h : Sl.isPend s = true) : ¬ s.state = 0 := by
  intro e; simp [Sl.isPend, e] at h
theorem Sl.pends_mem {ls : List Sl} {y : Wt} : y ∈ Sl.pends ls ↔ ∃ s ∈ ls, Sl.isPend s = true ∧ s.wt = y := by
  simp [Sl.pends, and_assoc]
theorem Sl.pends_irqs {ls : List Sl} (hg : Sl.good ls = true) : (Sl.pends ls).Pairwise (fun a b => a.irq ≠ b.irq) := by
  rw [Sl.pends, List.pairwise_map, List.pairwise_filter, List.pairwise_iff_getElem]
  intro i j hi hj hij h1 h2
  exact Sl.good_two hg (by omega) (List.getElem?_eq_getElem hi) (List.getElem?_eq_getElem hj) (Sl.isPend_used h1) (Sl.isPend_used h2)
theorem Qu.all_facts {ls : List Sl} {lw : List Wt} (hp : Qu.parts ls lw = true) : sortK Wt.lt (lw ++ Sl.pends ls) = Qu.all ls lw ∧ (Qu.all ls lw).Pairwise (fun a b => a.lt b = true) ∧ (Qu.all ls lw).Pairwise (fun a b => a.irq ≠ b.irq) := by
  obtain ⟨hg, _, h2, h3, h4⟩ := Qu.parts_iff.1 hp
  have h := fold_ins (Sl.pends ls) lw h3 h4 (Sl.pends_irqs hg) (fun x hx y hy => by
    obtain ⟨s, hs, hps, rfl⟩ := Sl.pends_mem.1 hx
    exact (h2 y hy s hs (Sl.isPend_used hps)).symm)
  refine ⟨?_, h.2⟩
  rw [sortK, List.foldl_append]
  change (Sl.pends ls).foldl (insK Wt.lt) (sortK Wt.lt lw) = _
  rw [sortK_sorted h3]
  exact h.1
theorem Qu.all_mem {ls : List Sl} {lw : List Wt} {y : Wt} : y ∈ Qu.all ls lw ↔ y ∈ lw ∨ ∃ s ∈ ls, Sl.isPend s = true ∧ s.wt = y := by
  rw [Qu.all, fold_mem, Sl.pends_mem]; exact or_comm

end Go.Proofs.YtfpaafmckeeecaaGreat

/- Processor interfaces in plain terms: when one is valid, and that what is done to it keeps it so. No condition. -/
namespace Go.Proofs.YtfpaafmckeeecaaGreat

theorem sortI_perm (l : List Int) : (l.mergeSort fun x y => decide (x ≤ y)).Perm l := List.mergeSort_perm l _
theorem sortI_asc (l : List Int) : (l.mergeSort fun x y => decide (x ≤ y)).Pairwise (fun a b => a ≤ b) := by
  have := List.pairwise_mergeSort (le := fun x y : Int => decide (x ≤ y)) (fun a b c h1 h2 => by simp at *; omega) (fun a b => by simp; omega) l
  exact this.imp (fun h => by simpa using h)
theorem asc_sub : ∀ (b a : List Int), a.Pairwise (· < ·) → b.Pairwise (· < ·) → (∀ x ∈ a, x ∈ b) → a.Sublist b
  | [], a, _, _, h => by
    cases a with
    | nil => exact List.Sublist.refl _
    | cons x a => exact absurd (h x (by simp)) (by simp)
  | y :: b, [], _, _, _ => List.nil_sublist _
  | y :: b, x :: a, ha, hb, h => by
    rw [List.pairwise_cons] at ha hb
    by_cases e : x = y
    · subst e
      refine List.Sublist.cons_cons x (asc_sub b a ha.2 hb.2 fun z hz => ?_)
      rcases List.mem_cons.1 (h z (by simp [hz])) with rfl | hz'
      · exact absurd (ha.1 z hz) (by omega)
      · exact hz'
    · have hx : x ∈ b := by
        rcases List.mem_cons.1 (h x (by simp)) with h' | h'
        · exact absurd h' e
        · exact h'
      have hyx := hb.1 x hx
      refine List.Sublist.cons y (asc_sub b (x :: a) (List.pairwise_cons.2 ha) hb.2 fun z hz => ?_)
      rcases List.mem_cons.1 (h z hz) with rfl | hz'
      · rcases List.mem_cons.1 hz with rfl | hz2
        · exact absurd rfl e
        · exact absurd (ha.1 z hz2) (by omega)
      · exact hz'
theorem asc_nodup {l : List Int} (h : l.Pairwise (· < ·)) : l.Nodup := h.imp (fun h e => by omega)
theorem nodup_asc {l : List Int} (h : l.Pairwise (· ≤ ·)) (hn : l.Nodup) : l.Pairwise (· < ·) := by
  have := h.and hn
  exact this.imp (fun ⟨h1, h2⟩ => by
    have : ¬ _ = _ := h2
    omega)

theorem set_self {α : Type} {l : List α} {k : Nat} {s : α} (h : l[k]? = some s) : l.set k s = l := by
  apply List.ext_getElem?
  intro j
  rw [List.getElem?_set]
  split
  · rename_i e
    subst e
    rw [if_pos (List.getElem?_eq_some_iff.1 h).1, h]
  · rfl

/-! ### validity -/
def Sl.lvl (ls : List Sl) (i : Int) : Int := (Sl.at_ ls (Sl.ix ls i)).prio
theorem Sl.active_asc (ls : List Sl) : (Sl.active ls).Pairwise (· < ·) := accL_asc _ _ ls
theorem Sl.active_mem {ls : List Sl} {i : Int} : i ∈ Sl.active ls ↔ ∃ s ∈ ls, Sl.isAct s = true ∧ s.irq = i := accL_mem _ _ ls i
theorem Sl.active_len (ls : List Sl) : (Sl.active ls).length ≤ ls.length := accL_len _ _ ls
/-! ### in words -/
/-- i is active, at priority p -/
def Sl.Act (ls : List Sl) (i p : Int) : Prop := ∃ s ∈ ls, Sl.isAct s = true ∧ s.irq = i ∧ s.prio = p
theorem Sl.isAct_used {s : Sl} (h : Sl.isAct s = true) : ¬ s.state = 0 := by intro e; simp [Sl.isAct, e] at h
theorem Sl.act_active {ls : List Sl} {i : Int} : i ∈ Sl.active ls ↔ ∃ p, Sl.Act ls i p := by
  rw [Sl.active_mem]
  constructor
  · rintro ⟨s, hs, ha, hi⟩; exact ⟨s.prio, s, hs, ha, hi, rfl⟩
  · rintro ⟨p, s, hs, ha, hi, _⟩; exact ⟨s, hs, ha, hi⟩
theorem Sl.act_set {ls : List Sl} {k : Nat} {s x : Sl} (hs : ls[k]? = some s) (i p : Int) : Sl.Act (ls.set k x) i p ↔ (Sl.isAct x = true ∧ x.irq = i ∧ x.prio = p) ∨ ∃ j u, j ≠ k ∧ ls[j]? = some u ∧ Sl.isAct u = true ∧ u.irq = i ∧ u.prio = p := by
  constructor
  · rintro ⟨u, hu, h⟩
    rcases mem_set_or hu with rfl | ⟨j, hj, hu⟩
    · exact .inl h
    · exact .inr ⟨j, u, hj, hu, h⟩
  · rintro (h | ⟨j, u, hj, hu, h⟩)
    · exact ⟨x, List.mem_of_getElem? (i := k) (by rw [List.getElem?_set, if_pos rfl, if_pos (List.getElem?_eq_some_iff.1 hs).1]), h⟩
    · exact ⟨u, List.mem_of_getElem? (i := j) (by rw [List.getElem?_set, if_neg (by omega)]; exact hu), h⟩
theorem Sl.act_at {ls : List Sl} {k : Nat} {s : Sl} (hs : ls[k]? = some s) (i p : Int) : Sl.Act ls i p ↔ (Sl.isAct s = true ∧ s.irq = i ∧ s.prio = p) ∨ ∃ j u, j ≠ k ∧ ls[j]? = some u ∧ Sl.isAct u = true ∧ u.irq = i ∧ u.prio = p := by
  have := Sl.act_set (x := s) hs i p
  rwa [set_self hs] at this
/-- setting a slot leaves the active ones if what stood there and what stands there are alike in that -/
theorem Sl.act_same {ls : List Sl} {k : Nat} {s x : Sl} (hs : ls[k]? = some s) (h : (Sl.isAct x = true ↔ Sl.isAct s = true) ∧ (Sl.isAct s = true → x.irq = s.irq ∧ x.prio = s.prio)) (i p : Int) : Sl.Act (ls.set k x) i p ↔ Sl.Act ls i p := by
  rw [Sl.act_set hs, Sl.act_at hs]
  refine or_congr ?_ Iff.rfl
  constructor
  · rintro ⟨h1, h2, h3⟩
    have h4 := h.1.1 h1
    have := h.2 h4
    exact ⟨h4, by rw [← this.1]; exact h2, by rw [← this.2]; exact h3⟩
  · rintro ⟨h1, h2, h3⟩
    have := h.2 h1
    exact ⟨h.1.2 h1, by rw [this.1]; exact h2, by rw [this.2]; exact h3⟩
theorem Qu.step_act {ls : List Sl} {lw : List Wt} (hs : Qu.settled ls lw = false) (i p : Int) : Sl.Act (Qu.step ls lw).1 i p ↔ Sl.Act ls i p := by
  obtain ⟨t, rest, rfl, hc⟩ := Qu.unsettled hs
  rcases hc with ⟨k, s, hk, _, hsk, h0⟩ | ⟨hf, k, s, hk, _, hsk, h1, _⟩
  · rw [Qu.step_free hk]
    exact Sl.act_same hsk ⟨by simp [Sl.isAct, Sl.pend, h0], fun h => by simp [Sl.isAct, h0] at h⟩ i p
  · rw [Qu.step_full hf hk hsk]
    exact Sl.act_same hsk ⟨by simp [Sl.isAct, Sl.pend, h1], fun h => by simp [Sl.isAct, h1] at h⟩ i p
theorem Qu.run_act : ∀ (n : Nat) (ls : List Sl) (lw : List Wt) (i p : Int), Sl.Act (Qu.run n ls lw).1 i p ↔ Sl.Act ls i p
  | 0, _, _, _, _ => Iff.rfl
  | n + 1, ls, lw, i, p => by
    cases hs : Qu.settled ls lw
    · rw [Qu.run, hs]
      simp only [Bool.false_eq_true, if_false]
      exact (Qu.run_act n _ _ i p).trans (Qu.step_act hs i p)
    · simp [Qu.run, hs]
theorem Qu.st_act (ls : List Sl) (lw : List Wt) (i p : Int) : Sl.Act (Qu.st ls lw).1 i p ↔ Sl.Act ls i p := Qu.run_act 1000 ls lw i p

/-! ### raising -/
/-! ### the running priority, taking -/
def Fa.run (st : List Int) (ls : List Sl) : Int := match st.getLast? with
  | some i => Sl.lvl ls i
  | none => 16
/-! ### leaving -/
end Go.Proofs.YtfpaafmckeeecaaGreat

/- Queues in plain terms, more: what is pending, in which order it is served. No condition. -/
namespace Go.Proofs.YtfpaafmckeeecaaGreat

/-! ### lists in strict order of urgency are told by their members -/
theorem lt_sub : ∀ (b a : List Wt), a.Pairwise (fun x y => x.lt y = true) → b.Pairwise (fun x y => x.lt y = true) → (∀ x ∈ a, x ∈ b) → a.Sublist b
  | [], a, _, _, h => by
    cases a with
    | nil => exact List.Sublist.refl _
    | cons x a => exact absurd (h x (by simp)) (by simp)
  | y :: b, [], _, _, _ => List.nil_sublist _
  | y :: b, x :: a, ha, hb, h => by
    rw [List.pairwise_cons] at ha hb
    by_cases e : x = y
    · subst e
      refine List.Sublist.cons_cons x (lt_sub b a ha.2 hb.2 fun z hz => ?_)
      rcases List.mem_cons.1 (h z (by simp [hz])) with rfl | hz'
      · exact absurd (ha.1 z hz) (by rw [Wt.lt_irrefl]; simp)
      · exact hz'
    · have hx : x ∈ b := by
        rcases List.mem_cons.1 (h x (by simp)) with h' | h'
        · exact absurd h' e
        · exact h'
      have hyx := hb.1 x hx
      refine List.Sublist.cons y (lt_sub b (x :: a) (List.pairwise_cons.2 ha) hb.2 fun z hz => ?_)
      rcases List.mem_cons.1 (h z hz) with rfl | hz'
      · rcases List.mem_cons.1 hz with rfl | hz2
        · exact absurd rfl e
        · exact absurd (Wt.lt_trans (ha.1 z hz2) hyx) (by rw [Wt.lt_irrefl]; simp)
      · exact hz'
theorem lt_ext {a b : List Wt} (ha : a.Pairwise (fun x y => x.lt y = true)) (hb : b.Pairwise (fun x y => x.lt y = true)) (h : ∀ x, x ∈ a ↔ x ∈ b) : a = b := by
  have h1 := lt_sub b a ha hb (fun x hx => (h x).1 hx)
  have h2 := lt_sub a b hb ha (fun x hx => (h x).2 hx)
  exact h1.eq_of_length (Nat.le_antisymm h1.length_le h2.length_le)

/-! ### the chosen slot is the best one -/
/-- the most urgent pending slot -/
theorem Sl.bx_best {ls : List Sl} {k : Nat} {s : Sl} (h : Sl.bx ls = k) (hs : ls[k]? = some s) {u : Sl} (hu : u ∈ ls) (h1 : u.state = 1) : ¬ u.wt.lt s.wt = true := by
  simpa using Sl.bx_top h hs hu h1
/-- the least urgent pending slot -/
theorem Sl.bn_best {ls : List Sl} {k : Nat} {s : Sl} (h : Sl.bn ls = k) (hs : ls[k]? = some s) {u : Sl} (hu : u ∈ ls) (h1 : u.state = 1) : ¬ s.wt.lt u.wt = true := by
  simpa using Sl.bn_top h hs hu h1
theorem Sl.fx_none {ls : List Sl} (h : Sl.fx ls = -1) {u : Sl} (hu : u ∈ ls) : ¬ u.state = 0 := by
  have h1 := findIx_nonneg Sl.free ls
  change decide (0 ≤ Sl.fx ls) = _ at h1
  rw [h] at h1
  have := List.any_eq_false.1 h1.symm u hu
  simpa [Sl.free] using this

/-! ### what is pending -/
/-- y is pending and not active -/
def Qu.pd (ls : List Sl) (lw : List Wt) (y : Wt) : Prop := y ∈ lw ∨ ∃ s ∈ ls, s.state = 1 ∧ s.wt = y
/-- y is pending -/
def Qu.pa (ls : List Sl) (lw : List Wt) (y : Wt) : Prop := y ∈ lw ∨ ∃ s ∈ ls, Sl.isPend s = true ∧ s.wt = y
theorem ex_set {ls : List Sl} {k : Nat} {s x : Sl} (hs : ls[k]? = some s) (p : Sl → Prop) : (∃ u ∈ ls.set k x, p u) ↔ p x ∨ ∃ j u, j ≠ k ∧ ls[j]? = some u ∧ p u := by
  constructor
  · rintro ⟨u, hu, h⟩
    rcases mem_set_or hu with rfl | ⟨j, hj, hu⟩
    · exact .inl h
    · exact .inr ⟨j, u, hj, hu, h⟩
  · rintro (h | ⟨j, u, hj, hu, h⟩)
    · exact ⟨x, List.mem_of_getElem? (i := k) (by rw [List.getElem?_set, if_pos rfl, if_pos (List.getElem?_eq_some_iff.1 hs).1]), h⟩
    · exact ⟨u, List.mem_of_getElem? (i := j) (by rw [List.getElem?_set, if_neg (by omega)]; exact hu), h⟩
theorem ex_at {ls : List Sl} {k : Nat} {s : Sl} (hs : ls[k]? = some s) (p : Sl → Prop) : (∃ u ∈ ls, p u) ↔ p s ∨ ∃ j u, j ≠ k ∧ ls[j]? = some u ∧ p u := by
  have := ex_set (x := s) hs p
  rwa [set_self hs] at this
theorem Qu.step_pd {ls : List Sl} {lw : List Wt} (hs : Qu.settled ls lw = false) (y : Wt) : Qu.pd (Qu.step ls lw).1 (Qu.step ls lw).2 y ↔ Qu.pd ls lw y := by
  obtain ⟨t, rest, rfl, hc⟩ := Qu.unsettled hs
  rcases hc with ⟨k, s, hk, _, hsk, h0⟩ | ⟨hf, k, s, hk, _, hsk, h1, _⟩
  · rw [Qu.step_free hk]
    unfold Qu.pd
    simp only
    rw [ex_set hsk, ex_at hsk]
    simp only [Sl.pend, Sl.wt, true_and, h0, List.mem_cons]
    constructor
    · rintro (h | rfl | h)
      · exact .inl (.inr h)
      · exact .inl (.inl rfl)
      · exact .inr (.inr h)
    · rintro ((rfl | h) | ⟨h, _⟩ | h)
      · exact .inr (.inl rfl)
      · exact .inl h
      · omega
      · exact .inr (.inr h)
  · rw [Qu.step_full hf hk hsk]
    unfold Qu.pd
    simp only
    rw [ex_set hsk, ex_at hsk, Wt.ins_mem]
    simp only [Sl.pend, Sl.wt, true_and, h1, List.mem_cons]
    constructor
    · rintro ((rfl | h) | rfl | h)
      · exact .inr (.inl rfl)
      · exact .inl (.inr h)
      · exact .inl (.inl rfl)
      · exact .inr (.inr h)
    · rintro ((rfl | h) | rfl | h)
      · exact .inr (.inl rfl)
      · exact .inl (.inr h)
      · exact .inl (.inl rfl)
      · exact .inr (.inr h)
theorem Qu.run_pd : ∀ (n : Nat) (ls : List Sl) (lw : List Wt) (y : Wt), Qu.pd (Qu.run n ls lw).1 (Qu.run n ls lw).2 y ↔ Qu.pd ls lw y
  | 0, _, _, _ => Iff.rfl
  | n + 1, ls, lw, y => by
    cases hs : Qu.settled ls lw
    · rw [Qu.run, hs]
      simp only [Bool.false_eq_true, if_false]
      exact (Qu.run_pd n _ _ y).trans (Qu.step_pd hs y)
    · simp [Qu.run, hs]
theorem Qu.st_pd (ls : List Sl) (lw : List Wt) (y : Wt) : Qu.pd (Qu.st ls lw).1 (Qu.st ls lw).2 y ↔ Qu.pd ls lw y := Qu.run_pd 1000 ls lw y
/-- both pending and active -/
def Sl.Both (ls : List Sl) (y : Wt) : Prop := ∃ s ∈ ls, s.state = 3 ∧ s.wt = y
theorem Qu.pa_iff {ls : List Sl} {lw : List Wt} {y : Wt} : Qu.pa ls lw y ↔ Qu.pd ls lw y ∨ Sl.Both ls y := by
  unfold Qu.pa Qu.pd Sl.Both
  constructor
  · rintro (h | ⟨s, hs, h1, h2⟩)
    · exact .inl (.inl h)
    · simp only [Sl.isPend, Bool.or_eq_true, beq_iff_eq] at h1
      rcases h1 with h1 | h1
      · exact .inl (.inr ⟨s, hs, h1, h2⟩)
      · exact .inr ⟨s, hs, h1, h2⟩
  · rintro ((h | ⟨s, hs, h1, h2⟩) | ⟨s, hs, h1, h2⟩)
    · exact .inl h
    · exact .inr ⟨s, hs, by simp [Sl.isPend, h1], h2⟩
    · exact .inr ⟨s, hs, by simp [Sl.isPend, h1], h2⟩
theorem Qu.step_both {ls : List Sl} {lw : List Wt} (hs : Qu.settled ls lw = false) (y : Wt) : Sl.Both (Qu.step ls lw).1 y ↔ Sl.Both ls y := by
  obtain ⟨t, rest, rfl, hc⟩ := Qu.unsettled hs
  unfold Sl.Both
  rcases hc with ⟨k, s, hk, _, hsk, h0⟩ | ⟨hf, k, s, hk, _, hsk, h1, _⟩
  · rw [Qu.step_free hk, ex_set hsk, ex_at hsk]; simp [Sl.pend, h0]
  · rw [Qu.step_full hf hk hsk, ex_set hsk, ex_at hsk]; simp [Sl.pend, h1]
theorem Qu.run_both : ∀ (n : Nat) (ls : List Sl) (lw : List Wt) (y : Wt), Sl.Both (Qu.run n ls lw).1 y ↔ Sl.Both ls y
  | 0, _, _, _ => Iff.rfl
  | n + 1, ls, lw, y => by
    cases hs : Qu.settled ls lw
    · rw [Qu.run, hs]
      simp only [Bool.false_eq_true, if_false]
      exact (Qu.run_both n _ _ y).trans (Qu.step_both hs y)
    · simp [Qu.run, hs]
theorem Qu.st_pa (ls : List Sl) (lw : List Wt) (y : Wt) : Qu.pa (Qu.st ls lw).1 (Qu.st ls lw).2 y ↔ Qu.pa ls lw y := by
  rw [Qu.pa_iff, Qu.pa_iff, Qu.st_pd]
  exact or_congr Iff.rfl (Qu.run_both 1000 ls lw y)
theorem Qu.all_pa {ls : List Sl} {lw : List Wt} {y : Wt} : y ∈ Qu.all ls lw ↔ Qu.pa ls lw y := Qu.all_mem
/-! ### the order of serving -/
/-- all that is pending and not active, in order -/
def Qu.ser (ls : List Sl) (lw : List Wt) : List Wt := ((ls.filter Sl.isP).map Sl.wt).foldl Wt.ins lw
theorem Qu.ser_facts {ls : List Sl} {lw : List Wt} (hp : Qu.parts ls lw = true) : (Qu.ser ls lw).Pairwise (fun a b => a.lt b = true) ∧ ∀ y, y ∈ Qu.ser ls lw ↔ Qu.pd ls lw y := by
  obtain ⟨hg, _, h2, h3, h4⟩ := Qu.parts_iff.1 hp
  have hu : ∀ s : Sl, Sl.isP s = true → s.state = 1 := fun s h => by simpa [Sl.isP] using h
  have h := fold_ins ((ls.filter Sl.isP).map Sl.wt) lw h3 h4 (by
    rw [List.pairwise_map, List.pairwise_filter, List.pairwise_iff_getElem]
    intro i j hi hj hij h1 h2
    exact Sl.good_two hg (by omega) (List.getElem?_eq_getElem hi) (List.getElem?_eq_getElem hj) (by have := hu _ h1; omega) (by have := hu _ h2; omega)) (fun x hx y hy => by
    obtain ⟨s, hs, rfl⟩ := List.mem_map.1 hx
    obtain ⟨hs, hps⟩ := List.mem_filter.1 hs
    exact (h2 y hy s hs (by have := hu _ hps; omega)).symm)
  refine ⟨h.2.1, fun y => ?_⟩
  rw [Qu.ser, fold_mem]
  unfold Qu.pd
  constructor
  · rintro (hy | hy)
    · obtain ⟨s, hs, rfl⟩ := List.mem_map.1 hy
      obtain ⟨hs, hps⟩ := List.mem_filter.1 hs
      exact .inr ⟨s, hs, hu _ hps, rfl⟩
    · exact .inl hy
  · rintro (hy | ⟨s, hs, h1, rfl⟩)
    · exact .inr hy
    · exact .inl (List.mem_map.2 ⟨s, List.mem_filter.2 ⟨hs, by simp [Sl.isP, h1]⟩, rfl⟩)
theorem Sl.na_ext {ls ls' : List Sl} (h : ∀ i p, Sl.Act ls i p ↔ Sl.Act ls' i p) : Sl.active ls = Sl.active ls' := by
  have key : ∀ a b : List Sl, (∀ i p, Sl.Act a i p ↔ Sl.Act b i p) → ∀ i ∈ Sl.active a, i ∈ Sl.active b := fun a b hab i hi => by
    rw [Sl.act_active] at *
    obtain ⟨p, hp⟩ := hi
    exact ⟨p, (hab i p).1 hp⟩
  have h1 := asc_sub _ _ (Sl.active_asc ls) (Sl.active_asc ls') (key ls ls' h)
  have h2 := asc_sub _ _ (Sl.active_asc ls') (Sl.active_asc ls) (key ls' ls (fun i p => (h i p).symm))
  exact h1.eq_of_length (Nat.le_antisymm h1.length_le h2.length_le)
theorem Qu.nx_act {ls : List Sl} {lw : List Wt} (hp : Qu.parts ls lw = true) {m : Int} (hk : Sl.tkOk ls m = true) (i p : Int) : Sl.Act (Qu.nx ls lw).1 i p ↔ Sl.Act ls i p := by
  obtain ⟨_, k, s, hs, h1, _, _, _, e⟩ := Qu.tk_end hp hk
  rw [Qu.nx, Qu.enP, Qu.st_act, e, Sl.act_set hs, Sl.act_at hs]
  simp [Sl.isAct, h1]
theorem Qu.nx_pd {ls : List Sl} {lw : List Wt} (hp : Qu.parts ls lw = true) {m : Int} (hk : Sl.tkOk ls m = true) : ∃ s, s ∈ ls ∧ s.state = 1 ∧ Sl.tkI ls = s.irq ∧ (∃ k : Nat, Sl.bx ls = k ∧ ls[k]? = some s) ∧ ∀ y, Qu.pd (Qu.nx ls lw).1 (Qu.nx ls lw).2 y ↔ Qu.pd ls lw y ∧ y ≠ s.wt := by
  obtain ⟨_, k, s, hs, h1, hb, _, e2, e⟩ := Qu.tk_end hp hk
  obtain ⟨hg, _, h2, _, _⟩ := Qu.parts_iff.1 hp
  refine ⟨s, List.mem_of_getElem? hs, h1, e2, ⟨k, hb, hs⟩, fun y => ?_⟩
  rw [Qu.nx, Qu.enP, Qu.st_pd, e]
  unfold Qu.pd
  rw [ex_set hs, ex_at hs]
  constructor
  · rintro (h | ⟨h, _⟩ | ⟨j, u, hj, hu, hu1, rfl⟩)
    · refine ⟨.inl h, ?_⟩
      rintro rfl
      exact h2 _ h s (List.mem_of_getElem? hs) (by omega) rfl
    · simp at h
    · refine ⟨.inr (.inr ⟨j, u, hj, hu, hu1, rfl⟩), fun e3 => ?_⟩
      have := Sl.good_two hg hj hu hs (by omega) (by omega)
      simp only [Sl.wt, Wt.mk.injEq] at e3
      exact this e3.1
  · rintro ⟨h | ⟨_, h⟩ | h, hne⟩
    · exact .inl h
    · exact absurd h.symm hne
    · exact .inr (.inr h)
/-- what is served is all that is pending and not active, in order, if a slot is not active -/
theorem Qu.serve_ser : ∀ (n : Nat) {ls : List Sl} {lw : List Wt}, Qu.good ls lw = true → Qu.pc ls lw ≤ n → (Sl.active ls).length < 4 → Qu.serve ls lw = (Qu.ser ls lw).map Wt.irq := by
  intro n
  induction n with
  | zero =>
    intro ls lw hq hn ha
    have hp := (Qu.good_parts hq).1
    have hk : Sl.tkOk ls 16 = false := by
      cases hk : Sl.tkOk ls 16
      · rfl
      · have := Sl.tk_pc (lw := lw) hk; omega
    rw [Qu.serve_no hk]
    have hf := Qu.ser_facts hp
    cases hser : Qu.ser ls lw with
    | nil => rfl
    | cons y r =>
      exfalso
      have hy := (hf.2 y).1 (by rw [hser]; simp)
      unfold Qu.pc at hn
      rcases hy with hy | ⟨s, hs, h1, _⟩
      · have : lw ≠ [] := fun e => by rw [e] at hy; simp at hy
        have := List.length_pos_iff.2 this
        omega
      · have : 0 < ls.countP Sl.isP := List.countP_pos_iff.2 ⟨s, hs, by simp [Sl.isP, h1]⟩
        omega
  | succ n ih =>
    intro ls lw hq hn ha
    obtain ⟨hp, hst⟩ := Qu.good_parts hq
    obtain ⟨hg, hw1, hw2, hw3, hw4⟩ := Qu.parts_iff.1 hp
    have hf := Qu.ser_facts hp
    cases hk : Sl.tkOk ls 16
    · rw [Qu.serve_no hk]
      have hbx : Sl.bx ls = -1 := by
        rcases Sl.bx_cases ls with h | ⟨k, s, hb, _, hs, h1⟩
        · exact h
        · exfalso
          have hfi := Sl.good_fine hg hs
          unfold Sl.fine at hfi
          rw [if_neg (by omega)] at hfi
          have : Sl.tkOk ls 16 = true := by
            simp only [Sl.tkOk, hb, Sl.at_get hs, Bool.and_eq_true, decide_eq_true_eq]
            omega
          rw [hk] at this; cases this
      have hno : ∀ u ∈ ls, ¬ u.state = 1 := fun u hu => Sl.bx_none hbx hu
      have hlw : lw = [] := by
        rcases Qu.settled_or hst with h | ⟨hfx, _⟩
        · exact h
        · exfalso
          have hall : ∀ u ∈ ls, u.irq ∈ Sl.active ls := fun u hu => by
            obtain ⟨j, hj⟩ := List.getElem?_of_mem hu
            have hfi := Sl.good_fine hg hj
            have h0 := Sl.fx_none hfx hu
            have h1 := hno u hu
            unfold Sl.fine at hfi
            rw [if_neg h0] at hfi
            refine Sl.act_active.2 ⟨u.prio, u, hu, ?_, rfl, rfl⟩
            simp only [Sl.isAct, Bool.or_eq_true, beq_iff_eq]
            omega
          have hl := Sl.good_len hg
          have hnd : (ls.map Sl.irq).Nodup := by
            unfold List.Nodup
            rw [List.pairwise_map, List.pairwise_iff_getElem]
            intro i j hi hj hij
            exact Sl.good_two hg (by omega) (List.getElem?_eq_getElem hi) (List.getElem?_eq_getElem hj) (Sl.fx_none hfx (List.getElem_mem hi)) (Sl.fx_none hfx (List.getElem_mem hj))
          have hpm := sortI_perm (ls.map Sl.irq)
          have := asc_sub _ _ (nodup_asc (sortI_asc _) (hpm.nodup_iff.2 hnd)) (Sl.active_asc ls) (fun x hx => by
            obtain ⟨u, hu, rfl⟩ := List.mem_map.1 (hpm.mem_iff.1 hx)
            exact hall u hu)
          have := this.length_le
          rw [hpm.length_eq, List.length_map] at this
          omega
      cases hser : Qu.ser ls lw with
      | nil => rfl
      | cons y r =>
        exfalso
        have hy := (hf.2 y).1 (by rw [hser]; simp)
        rcases hy with hy | ⟨s, hs, h1, _⟩
        · rw [hlw] at hy; simp at hy
        · exact hno s hs h1
    · rw [Qu.serve_yes hp hk]
      have hg2 := Qu.nx_good hp hk
      have hpc := Qu.nx_pc hp hk
      have hact := Sl.na_ext (Qu.nx_act hp hk)
      rw [ih hg2 (by omega) (by rw [hact]; exact ha)]
      obtain ⟨s, hsm, h1, e2, ⟨k, hb, hs⟩, hpd⟩ := Qu.nx_pd hp hk
      have hf2 := Qu.ser_facts (Qu.good_parts hg2).1
      have hleast : ∀ y, Qu.pd ls lw y → y ≠ s.wt → s.wt.lt y = true := fun y hy hne => by
        rcases hy with hy | ⟨u, hu, hu1, rfl⟩
        · rcases Qu.settled_or hst with h | ⟨_, t, rest, hlw, hbn⟩
          · rw [h] at hy; simp at hy
          · have hty : t = y ∨ t.lt y = true := by
              rw [hlw] at hy hw3
              rw [List.pairwise_cons] at hw3
              rcases List.mem_cons.1 hy with rfl | hy
              · exact .inl rfl
              · exact .inr (hw3.1 y hy)
            rcases hbn with hbn | ⟨k2, s2, hbn, _, hs2, _, hlt⟩
            · exact absurd h1 (Sl.bn_none hbn hsm)
            · have h3 : s.wt = s2.wt ∨ s.wt.lt s2.wt = true := by
                by_cases e : s.irq = s2.irq
                · left
                  by_cases hkk : k = k2
                  · subst hkk; rw [hs] at hs2; injection hs2 with hs2; rw [hs2]
                  · have h5 := Sl.best_bd false ls ls.length (Nat.le_refl _)
                    rcases h5 with h5 | ⟨k3, s3, h5, _, hs3, h31⟩
                    · change Sl.bn ls = -1 at h5; omega
                    · change Sl.bn ls = k3 at h5
                      have : k3 = k2 := by omega
                      subst this
                      rw [hs2] at hs3; injection hs3 with hs3; subst hs3
                      exact absurd e (Sl.good_two hg hkk hs hs2 (by omega) (by omega))
                · right
                  exact Wt.lt_other (Sl.bn_best hbn hs2 hsm h1) (fun e' => e e'.symm)
              have h4 : s2.wt.lt y = true := by
                rcases hty with rfl | hty
                · exact hlt
                · exact Wt.lt_trans hlt hty
              rcases h3 with h3 | h3
              · rw [h3]; exact h4
              · exact Wt.lt_trans h3 h4
        · refine Wt.lt_other (Sl.bx_best hb hs hu hu1) (fun e => hne ?_)
          obtain ⟨j, hj⟩ := List.getElem?_of_mem hu
          by_cases hjk : j = k
          · subst hjk; rw [hs] at hj; injection hj with hj; rw [hj]
          · exact absurd e (Sl.good_two hg hjk hj hs (by omega) (by omega))
      have : Qu.ser ls lw = s.wt :: Qu.ser (Qu.nx ls lw).1 (Qu.nx ls lw).2 := by
        refine lt_ext hf.1 (List.pairwise_cons.2 ⟨fun y hy => ?_, hf2.1⟩) (fun y => ?_)
        · have := (hpd y).1 ((hf2.2 y).1 hy)
          exact hleast y this.1 this.2
        · rw [hf.2, List.mem_cons, hf2.2, hpd]
          constructor
          · intro h
            by_cases e : y = s.wt
            · exact .inl e
            · exact .inr ⟨h, e⟩
          · rintro (rfl | h)
            · exact .inr ⟨s, hsm, h1, rfl⟩
            · exact h.1
      rw [this, e2]
      rfl

end Go.Proofs.YtfpaafmckeeecaaGreat

/- Queues in plain terms: offering, taking, ending and withdrawing, as the laws on queues say it. No condition. -/
namespace Go.Proofs.YtfpaafmckeeecaaGreat

/-! ### how many are pending -/
def Qu.tot (ls : List Sl) (lw : List Wt) : Nat := lw.length + ls.countP Sl.isPend
theorem Qu.all_length (ls : List Sl) (lw : List Wt) : (Qu.all ls lw).length = Qu.tot ls lw := by
  rw [Qu.all, Qu.foldl_ins_len, Sl.pends, List.length_map, Qu.tot, List.countP_eq_length_filter]
theorem countPend_set : ∀ {ls : List Sl} {k : Nat} {s x : Sl}, ls[k]? = some s → (ls.set k x).countP Sl.isPend + (if Sl.isPend s then 1 else 0) = ls.countP Sl.isPend + (if Sl.isPend x then 1 else 0)
  | [], k, s, x, h => by simp at h
  | y :: ls, 0, s, x, h => by
    simp at h; subst h
    simp only [List.set_cons_zero, List.countP_cons]; omega
  | y :: ls, k + 1, s, x, h => by
    have ih := countPend_set (ls := ls) (k := k) (s := s) (x := x) (by simpa using h)
    simp only [List.set_cons_succ, List.countP_cons]; omega
theorem Qu.step_tot {ls : List Sl} {lw : List Wt} (hs : Qu.settled ls lw = false) : Qu.tot (Qu.step ls lw).1 (Qu.step ls lw).2 = Qu.tot ls lw := by
  obtain ⟨t, rest, rfl, hc⟩ := Qu.unsettled hs
  have hp : Sl.isPend (Sl.pend t) = true := rfl
  rcases hc with ⟨k, s, hk, _, hsk, h0⟩ | ⟨hf, k, s, hk, _, hsk, h1, hlt⟩
  · rw [Qu.step_free hk]
    have := countPend_set (x := Sl.pend t) hsk
    rw [hp, show Sl.isPend s = false by simp [Sl.isPend, h0]] at this
    simp [Qu.tot] at *
    omega
  · rw [Qu.step_full hf hk hsk]
    have := countPend_set (x := Sl.pend t) hsk
    rw [hp, show Sl.isPend s = true by simp [Sl.isPend, h1]] at this
    simp [Qu.tot, Wt.ins_len] at *
    omega
theorem Qu.run_tot : ∀ (n : Nat) (ls : List Sl) (lw : List Wt), Qu.tot (Qu.run n ls lw).1 (Qu.run n ls lw).2 = Qu.tot ls lw
  | 0, _, _ => rfl
  | n + 1, ls, lw => by
    cases hs : Qu.settled ls lw
    · rw [Qu.run, hs]
      simp only [Bool.false_eq_true, if_false]
      rw [Qu.run_tot n, Qu.step_tot hs]
    · simp [Qu.run, hs]
theorem Qu.st_tot (ls : List Sl) (lw : List Wt) : Qu.tot (Qu.st ls lw).1 (Qu.st ls lw).2 = Qu.tot ls lw := Qu.run_tot 1000 ls lw
/-- the interrupts that are pending -/
def Qu.irqs (ls : List Sl) (lw : List Wt) : List Int := (Qu.all ls lw).map Wt.irq
theorem Qu.irqs_mem {ls : List Sl} {lw : List Wt} {i : Int} : i ∈ Qu.irqs ls lw ↔ ∃ y, Qu.pa ls lw y ∧ y.irq = i := by
  rw [Qu.irqs, List.mem_map]
  simp only [Qu.all_pa]

/-! ### offering -/
theorem Qu.of_after {ls : List Sl} {lw : List Wt} {i p : Int} (h : Qu.ofOk ls lw i p = true) : i ∈ Qu.irqs (Qu.ofP ls lw i p).1 (Qu.ofP ls lw i p).2 ∧ (Qu.all (Qu.ofP ls lw i p).1 (Qu.ofP ls lw i p).2).length ≤ (Qu.all ls lw).length + 1 := by
  obtain ⟨hq, hi, hpr⟩ := Qu.ofOk_get h
  have hp := (Qu.good_parts hq).1
  have hg := (Qu.parts_get hp).1
  rw [Qu.irqs_mem, Qu.all_length, Qu.all_length, Qu.ofP, Qu.st_tot]
  simp only [Qu.st_pa]
  by_cases h1 : 0 ≤ Sl.ix ls i
  · rw [Qu.of_hit h1]
    obtain ⟨k, s, hk, _, hs, h0, hsi⟩ := Sl.ix_hit h1
    have e := (Sl.put_hit (p := p) hk hs).2
    have hf := Sl.good_fine hg hs
    unfold Sl.fine at hf
    rw [if_neg h0] at hf
    have hb : Sl.isPend (Sl.both s) = true ∧ (Sl.both s).irq = s.irq := by
      unfold Sl.both
      split
      · simp [Sl.isPend]
      · refine ⟨?_, rfl⟩
        simp only [Sl.isPend, Bool.or_eq_true, beq_iff_eq]; omega
    refine ⟨⟨(Sl.both s).wt, .inr ?_, by show (Sl.both s).irq = i; rw [hb.2, hsi]⟩, ?_⟩
    · show ∃ u ∈ Sl.putR ls i p, _
      rw [e, ex_set hs]
      exact .inl ⟨hb.1, rfl⟩
    · show Qu.tot (Sl.putR ls i p) lw ≤ _
      rw [e]
      have := countPend_set (x := Sl.both s) hs
      unfold Qu.tot
      rw [hb.1] at this
      split at this <;> simp at this <;> omega
  · have h1' : Sl.ix ls i < 0 := by omega
    cases h2 : lw.any (Wt.isI i)
    · rw [Qu.of_new h1' h2]
      refine ⟨⟨⟨i, p⟩, .inl (Wt.ins_mem.2 (.inl rfl)), rfl⟩, ?_⟩
      simp [Qu.tot, Wt.ins_len]; omega
    · rw [Qu.of_had h1' h2]
      obtain ⟨y, hy, hyi⟩ := List.any_eq_true.1 h2
      exact ⟨⟨y, .inl hy, by simpa [Wt.isI] using hyi⟩, by simp [Qu.tot]⟩
theorem Qu.pa_hit {ls : List Sl} {lw : List Wt} {i : Int} (hp : Qu.parts ls lw = true) (h : i ∈ Qu.irqs ls lw) : (∃ (k : Nat) (s : Sl), Sl.ix ls i = k ∧ ls[k]? = some s ∧ ¬ s.state = 0 ∧ s.irq = i ∧ Sl.isPend s = true) ∨ (Sl.ix ls i < 0 ∧ lw.any (Wt.isI i) = true) := by
  obtain ⟨hg, _, h2, _, _⟩ := Qu.parts_iff.1 hp
  obtain ⟨y, hy, rfl⟩ := Qu.irqs_mem.1 h
  rcases hy with hy | ⟨s, hs, hps, rfl⟩
  · exact .inr ⟨Sl.ix_neg.2 (h2 y hy), List.any_eq_true.2 ⟨y, hy, by simp [Wt.isI]⟩⟩
  · obtain ⟨k, hk⟩ := List.getElem?_of_mem hs
    have h0 := Sl.isPend_used hps
    exact .inl ⟨k, s, Sl.ix_of hg hk h0, hk, h0, rfl, hps⟩
/-- what is pending may be offered again without effect -/
theorem Qu.of_again {ls : List Sl} {lw : List Wt} {i p : Int} (hq : Qu.good ls lw = true) (h : i ∈ Qu.irqs ls lw) : Qu.ofP ls lw i p = (ls, lw) := by
  obtain ⟨hp, hst⟩ := Qu.good_parts hq
  rcases Qu.pa_hit hp h with ⟨k, s, hk, hs, h0, hi, hps⟩ | ⟨h1, h2⟩
  · rw [Qu.ofP, Qu.of_hit (by omega)]
    have hb : Sl.both s = s := by
      unfold Sl.both
      rw [if_neg (fun e => by simp [Sl.isPend, e] at hps)]
    have e : Sl.putR ls i p = ls := by
      rw [(Sl.put_hit (p := p) hk hs).2, hb]
      exact set_self hs
    show Qu.st (Sl.putR ls i p) lw = _
    rw [e]
    exact Qu.st_done hst
  · rw [Qu.ofP, Qu.of_had h1 h2]
    exact Qu.st_done hst

/-! ### serving -/
theorem Qu.rest_eq {ls : List Sl} {lw : List Wt} (hp : Qu.parts ls lw = true) : (Qu.irqs ls lw).filter (fun i => !(Sl.active ls).contains i) = (Qu.ser ls lw).map Wt.irq := by
  obtain ⟨hg, _, h2, _, _⟩ := Qu.parts_iff.1 hp
  have hf := Qu.ser_facts hp
  rw [Qu.irqs, List.filter_map]
  congr 1
  refine lt_ext ((Qu.all_facts hp).2.1.filter _) hf.1 (fun y => ?_)
  rw [List.mem_filter, Qu.all_pa, hf.2, Qu.pa_iff]
  simp only [Function.comp_apply, Bool.not_eq_true', List.contains_eq_mem, decide_eq_false_iff_not]
  rw [Sl.act_active]
  constructor
  · rintro ⟨h | ⟨s, hs, h3, rfl⟩, hn⟩
    · exact h
    · exact absurd ⟨s.prio, s, hs, by simp [Sl.isAct, h3], rfl, rfl⟩ hn
  · intro h
    refine ⟨.inl h, ?_⟩
    rintro ⟨p, u, hu, ha, hui, _⟩
    rcases h with h | ⟨s, hs, h1, rfl⟩
    · exact h2 y h u hu (Sl.isAct_used ha) hui
    · obtain ⟨j, hj⟩ := List.getElem?_of_mem hu
      obtain ⟨k, hk⟩ := List.getElem?_of_mem hs
      by_cases hjk : j = k
      · subst hjk; rw [hk] at hj; injection hj with hj; subst hj; simp [Sl.isAct, h1] at ha
      · exact Sl.good_two hg hjk hj hk (Sl.isAct_used ha) (by omega) hui
theorem Qu.serve_rest {ls : List Sl} {lw : List Wt} (hq : Qu.good ls lw = true) (ha : (Sl.active ls).length < 4) : Qu.serve ls lw = (Qu.irqs ls lw).filter (fun i => !(Sl.active ls).contains i) := by
  rw [Qu.rest_eq (Qu.good_parts hq).1]
  exact Qu.serve_ser _ hq (Nat.le_refl _) ha
theorem Qu.serve_full {ls : List Sl} {lw : List Wt} (hq : Qu.good ls lw = true) (ha : (Sl.active ls).length = 4) : Qu.serve ls lw = [] := by
  have hp := (Qu.good_parts hq).1
  have hg := (Qu.parts_get hp).1
  refine Qu.serve_no ?_
  cases hk : Sl.tkOk ls 16
  · rfl
  · exfalso
    obtain ⟨k, s, _, _, hs, h1, _⟩ := Sl.tkOk_hit hk
    -- the active ones are among the other slots
    have hl := Sl.good_len hg
    have hsub : ∀ i ∈ Sl.active ls, i ∈ ((ls.eraseIdx k).map Sl.irq) := fun i hi => by
      obtain ⟨p, u, hu, ha2, hui, _⟩ := Sl.act_active.1 hi
      obtain ⟨j, hj⟩ := List.getElem?_of_mem hu
      have hjk : j ≠ k := fun e => by subst e; rw [hs] at hj; injection hj with hj; subst hj; simp [Sl.isAct, h1] at ha2
      rw [List.mem_map]
      refine ⟨u, ?_, hui⟩
      rw [List.mem_eraseIdx_iff_getElem?]
      exact ⟨j, hjk, hj⟩
    have hpm := sortI_perm ((ls.eraseIdx k).map Sl.irq)
    have h3 : (Sl.active ls).length ≤ ((ls.eraseIdx k).map Sl.irq).length := by
      have key : ∀ (a b : List Int), a.Nodup → (∀ x ∈ a, x ∈ b) → a.length ≤ b.length := by
        intro a
        induction a with
        | nil => intro b _ _; simp
        | cons x a ih =>
          intro b hn hb
          have hx := hb x (by simp)
          have hn' := List.nodup_cons.1 hn
          have := ih (b.erase x) hn'.2 (fun z hz => by
            have hzx : z ≠ x := fun e => hn'.1 (e ▸ hz)
            exact (List.mem_erase_of_ne hzx).2 (hb z (by simp [hz])))
          rw [List.length_erase_of_mem hx] at this
          have := List.length_pos_of_mem hx
          simp only [List.length_cons]
          omega
      exact key _ _ (asc_nodup (Sl.active_asc ls)) hsub
    have hkl := (List.getElem?_eq_some_iff.1 hs).1
    rw [List.length_map, List.length_eraseIdx, if_pos hkl] at h3
    omega
theorem Sl.active_le4 {ls : List Sl} (hg : Sl.good ls = true) : (Sl.active ls).length ≤ 4 := by
  have := Sl.active_len ls
  rw [Sl.good_len hg] at this
  exact this

/-! ### taking -/
/-! ### withdrawing -/
end Go.Proofs.YtfpaafmckeeecaaGreat

/- The library's sort of at most 12 waiting interrupts by their urgency. Condition: at most 12. -/
namespace Go.Proofs.YtfpaafmckeeecaaGreat
open Go.RowKit Go.ChangeShapes Go.WideShapes Go.Deep

theorem Turned.below {w w1 w2 : World} {v : Value} {n : Nat} (ht : Turned w w1 v n) (hb : Below w1.heap.size w1 w2) : Turned w w2 v n := by
  obtain ⟨row, hg, hr⟩ := ht
  exact ⟨row, grown_trans hg (World.grownBy.mk hb.os hb.tape hb.output hb.size (fun k hk _ => hb.block k hk)), hr⟩
theorem Turned.drew {w w1 : World} {v : Value} {n : Nat} (ht : Turned w w1 v n) : Turned w w1.drew v n := ht.below (Below.refl w1.heap.size w1).drew
theorem Turned.setL {w w1 : World} {b off n c m : Nat} (ht : Turned w w1 (.slice (some ⟨b, off, none⟩) n c) m) (hm : 0 < m) (o : Nat) (vs : List Value) : Turned w (setL w1 b o vs) (.slice (some ⟨b, off, none⟩) n c) m := by
  obtain ⟨row, hg, hr⟩ := ht
  have hw : w.grownBy w1 (some b) := ⟨hg.os, hg.tape, hg.output, hg.size, fun i hi hne => hg.block i hi (fun e => hne (by
    have := (hr i e.symm).2
    simp [Value.ownBlock] at this
    rw [this]))⟩
  exact ⟨some b, grown_trans hw (setL_grown vs w1 b o), fun g e => ⟨hm, by simpa [Value.ownBlock] using e⟩⟩
set_option maxHeartbeats 4000000 in
set_option maxRecDepth 8000 in
theorem isortW_any (w0 : World) (v : Value) (l : List Wt) (n : Nat) (hn : n = l.length) (w : World) {hi : Nat} (hb0 : Below w0.heap.size w0 w)
    (h : Ow Wt.cells 2 67 w w0.heap.size hi v l) (hh : hi ≤ w.heap.size) :
    Calls Tryz.prog 109 #[v, .int .i64 0, .int .i64 n, .func (.func 78) #[] #[]] w fun e w' => e = .returned (.tuple #[]) ∧ Ow Wt.cells 2 67 w' w0.heap.size hi v (sortK Wt.lt l) ∧ hi ≤ w'.heap.size ∧ Below w0.heap.size w0 w' ∧ Turned w w' v l.length := by
  obtain ⟨A, n', c, rfl, H, hc, hm⟩ := h.rd.form
  obtain rfl : n' = n := H.out.trans hn.symm
  clear hn
  go_enter Tryz.func109, Tryz.ntmps109
  go_wp2_with fail
  go_loopw [8] (fun i wr => ∃ (k : Nat) (ik : Int), i = .int .i64 ik ∧ Hid (ik = k + 1) ∧ k ≤ n' ∧ Below w0.heap.size w0 wr ∧ hi ≤ wr.heap.size ∧ Ow Wt.cells 2 67 wr w0.heap.size hi (.slice A n' c) (sortK Wt.lt (l.take (k + 1)) ++ l.drop (k + 1)) ∧ Turned w wr (.slice A n' c) l.length) (fun i _ => n' + 1 - (intOf i).toNat)
  case atStart =>
    refine ⟨0, 1, rfl, Lib.hid (by simp), Nat.zero_le _, hb0, hh, ?_, Turned.refl _ _ _⟩
    have : sortK Wt.lt (l.take 1) ++ l.drop 1 = l := by
      cases l with
      | nil => rfl
      | cons x l => simp [sortK, insK, bk]
    rw [this]; exact h
  case round =>
    obtain ⟨k, ik, rfl, HI, hk, hb, hh2, ow, tt⟩ := hrel
    clear hb0 h hh
    have hik0 : 0 < ik := by have := HI.out; omega
    by_cases hlt : ik < (n' : Int)
    · have hlt1 : k + 1 < n' := by have := HI.out; omega
      have hd0 : decide (ik < (n' : Int)) = true := decide_eq_true hlt
      have hkl : k + 1 < l.length := by rw [← H.out]; exact hlt1
      have hSl : (sortK Wt.lt (l.take (k + 1))).length = k + 1 := by rw [sortK_len, List.length_take]; omega
      have HX := Lib.hid (show sortK Wt.lt (l.take (k + 1 + 1)) = insK Wt.lt (sortK Wt.lt (l.take (k + 1))) (l[k + 1]) from sortK_pre (List.getElem?_eq_getElem hkl))
      rw [List.drop_eq_getElem_cons hkl] at ow
      generalize sortK Wt.lt (l.take (k + 1)) = S at *
      generalize l[k + 1] = x at *
      obtain ⟨rest, HR⟩ : ∃ rest, Hid (l.drop (k + 1 + 1) = rest) := ⟨_, Lib.hid rfl⟩
      rw [HR.out] at ow
      have ow2 : Ow Wt.cells 2 67 wr w0.heap.size hi (.slice A n' c) (walkK S x (k + 1) ++ rest) := by
        rw [← hSl, walkK_end]; simpa using ow
      clear ow
      go_wp2_with fail
      go_loopw [9] (fun j w2 => ∃ m : Nat, j = .int .i64 m ∧ m ≤ k + 1 ∧ Below w0.heap.size w0 w2 ∧ hi ≤ w2.heap.size ∧ Ow Wt.cells 2 67 w2 w0.heap.size hi (.slice A n' c) (walkK S x m ++ rest) ∧ Hid (∀ (j : Nat) (y : Wt), m ≤ j → S[j]? = some y → x.lt y = true) ∧ Turned w w2 (.slice A n' c) l.length) (fun j _ => (intOf j).toNat)
      case atStart => exact ⟨k + 1, by rw [HI.out]; rfl, Nat.le_refl _, hb, hh2, ow2, Lib.hid (fun j y hj hy => by rw [List.getElem?_eq_none (by omega)] at hy; cases hy), tt⟩
      case round =>
        obtain ⟨m, rfl, hm2, hb3, hh3, ow3, HJ, tt3⟩ := hrel
        clear hb hh2 ow2 tt
        by_cases hm0 : m = 0
        · subst hm0
          have HQ := Lib.hid (show walkK S x 0 = insK Wt.lt S x from walkK_ins (bk_eq x S 0 (Nat.zero_le _) HJ.out (fun j y h => by omega)))
          have hd : decide ((0 : Int) < ((0 : Nat) : Int)) = false := by simp
          go_wp2_with fail
          refine wp_region_ext_all (by kernel_rfl) (by kernel_rfl) ?_
          repeat (go_big_quiet_step (fail))
          refine wpQuiet_nil ?_
          intro w5 b5
          have z5 := b5.size
          go_wp2_with fail
          go_roundw
          case rel => exact ⟨k + 1, ik + 1, by go_num, Lib.hid (by rw [HI.out]; simp), by omega, hb3.trans (b5.mono hb3.size), by omega, by rw [HX.out, ← HQ.out, HR.out]; exact ow3.below b5 hh3, tt3.below b5⟩
          case measure => simp [intOf] <;> omega
        · obtain ⟨m', rfl⟩ : ∃ m', m = m' + 1 := ⟨m - 1, by omega⟩
          clear hm0
          have hmS : m' < S.length := by omega
          have hyS : S[m']? = some S[m'] := List.getElem?_eq_getElem hmS
          generalize S[m'] = y at hyS
          obtain ⟨b, off, x1, rfl, hx1, hbl0, hbl, f0, f1⟩ := Wt.get ow3.rd (k := m' + 1) (by omega) (Below.refl wr.heap.size wr) hh3
          obtain ⟨_, _, y1, e, hy1, _, _, g0, g1⟩ := Wt.get ow3.rd (k := m') (by omega) (Below.refl wr.heap.size wr) hh3
          injection e with e
          injection e with e1 e2
          subst e1; subst e2
          have hwl : (walkK S x (m' + 1)).length = k + 2 := by simp [walkK, hSl]; omega
          obtain rfl : x1 = x := by
            have := hx1.out
            rw [List.getElem?_append_left (by omega), walkK_at (by omega)] at this
            exact (Option.some.inj this).symm
          obtain rfl : y1 = y := by
            have := hy1.out
            rw [List.getElem?_append_left (by omega), walkK_before hmS, hyS] at this
            exact (Option.some.inj this).symm
          have hcz := urg_neg ⟨x1.irq, x1.prio⟩ ⟨y1.irq, y1.prio⟩
          have hd : decide ((0 : Int) < ((m' + 1 : Nat) : Int)) = true := by simp
          have hi1 : ((m' + 1 : Nat) : Int) < (n' : Int) := by omega
          have e0 := cell_ext f0; have e1 := cell_ext f1; have e2 := cell_ext g0; have e3 := cell_ext g1
          by_cases hq : Wt.lt x1 y1 = true
          · have hd2 : decide (urg ⟨x1.irq, x1.prio⟩ ⟨y1.irq, y1.prio⟩ < 0) = true := decide_eq_true (hcz.2 hq)
            have HW := Lib.hid (walkK_step (rest := rest) (x := x1) hyS)
            have HJ2 := Lib.hid (show ∀ (j : Nat) (y : Wt), m' ≤ j → S[j]? = some y → x1.lt y = true from fun j y hj hy => by
              by_cases hjm : j = m'
              · subst hjm; rw [hyS] at hy; exact (Option.some.inj hy) ▸ hq
              · exact HJ.out j y (by omega) hy)
            clear hcz hq hyS HJ
            go_wp2_with fail
            refine wp_region_ext_all (by kernel_rfl) (by kernel_rfl) ?_
            repeat (go_big_quiet_step (exact calls_ext (compareUrgency_at _ _ _ _ _)))
            refine wpQuiet_nil ?_
            intro w5 b5
            clear e0 e1 e2 e3
            have z5 := b5.size
            replace ow3 := ow3.below b5 hh3
            replace f0 := (b5.cell (p := ⟨b, _, none⟩) (by show b < _; omega)).trans f0
            replace f1 := (b5.cell (p := ⟨b, _, none⟩) (by show b < _; omega)).trans f1
            replace g0 := (b5.cell (p := ⟨b, _, none⟩) (by show b < _; omega)).trans g0
            replace g1 := (b5.cell (p := ⟨b, _, none⟩) (by show b < _; omega)).trans g1
            have hz := ow3.frozen (by omega)
            replace hb3 := hb3.trans (b5.mono hb3.size)
            replace tt3 := tt3.below b5
            clear b5
            go_wp2_with fail
            go_region
            generalize hw : World.setCell (World.setCell (World.setCell (World.setCell _ _ _) _ _) _ _) _ _ = w3
            obtain rfl : w3 = setL (setL w5 b (off + (m' + 1) * 2) [.int .i64 y1.irq, .int .i64 y1.prio]) b (off + m' * 2) [.int .i64 x1.irq, .int .i64 x1.prio] := hw.symm
            clear hw
            have u1 : Upd 67 2 w5 (setL w5 b (off + (m' + 1) * 2) [.int .i64 y1.irq, .int .i64 y1.prio]) b (off + (m' + 1) * 2) (Wt.cells x1) (Wt.cells y1) := by
              have := Upd.of_setL (E := 67) (sz := 2) (w := w5) (b := b) (o := off + (m' + 1) * 2) (xs := Wt.cells x1) (ys' := Wt.cells y1) (ys := [.int .i64 y1.irq, .int .i64 y1.prio]) 0 rfl rfl (by simp)
              simpa using this
            have o2 := ow3.upd Wt.cells_len (by omega) hx1.out u1
            have u2 : Upd 67 2 (setL w5 b (off + (m' + 1) * 2) [.int .i64 y1.irq, .int .i64 y1.prio]) (setL (setL w5 b (off + (m' + 1) * 2) [.int .i64 y1.irq, .int .i64 y1.prio]) b (off + m' * 2) [.int .i64 x1.irq, .int .i64 x1.prio]) b (off + m' * 2) (Wt.cells y1) (Wt.cells x1) := by
              have := Upd.of_setL (E := 67) (sz := 2) (w := setL w5 b (off + (m' + 1) * 2) [.int .i64 y1.irq, .int .i64 y1.prio]) (b := b) (o := off + m' * 2) (xs := Wt.cells y1) (ys' := Wt.cells x1) (ys := [.int .i64 x1.irq, .int .i64 x1.prio]) 0 rfl rfl (by simp)
              simpa using this
            have o3 := o2.upd Wt.cells_len (by omega) (by rw [List.getElem?_set_ne (by omega)]; exact hy1.out) u2
            rw [HW.out] at o3
            have bb := setL_below (setL_below hb3 [.int .i64 y1.irq, .int .i64 y1.prio] b (off + (m' + 1) * 2) hbl0) [.int .i64 x1.irq, .int .i64 x1.prio] b (off + m' * 2) hbl0
            have hs3 : hi ≤ (setL (setL w5 b (off + (m' + 1) * 2) [.int .i64 y1.irq, .int .i64 y1.prio]) b (off + m' * 2) [.int .i64 x1.irq, .int .i64 x1.prio]).heap.size := by rw [setL_size, setL_size]; omega
            go_wp2_with fail
            go_roundw
            case rel => exact ⟨m', by go_num, by omega, bb.drew, hs3, o3.drew, HJ2, ((tt3.setL (by have := H.out; omega) _ _).setL (by have := H.out; omega) _ _).drew⟩
            case measure => simp [intOf] <;> omega
          · have hd2 : decide (urg ⟨x1.irq, x1.prio⟩ ⟨y1.irq, y1.prio⟩ < 0) = false := decide_eq_false (fun h => hq (hcz.1 h))
            have hJ : ∀ (j : Nat) (y : Wt), m' + 1 = j + 1 → S[j]? = some y → x1.lt y = false := fun j y hj hy => by
              obtain rfl : j = m' := by omega
              rw [hyS] at hy
              obtain rfl := Option.some.inj hy
              exact Bool.eq_false_iff.2 hq
            have HQ := Lib.hid (show walkK S x1 (m' + 1) = insK Wt.lt S x1 from walkK_ins (bk_eq x1 S (m' + 1) (by omega) HJ.out hJ))
            clear hJ
            clear hcz hq hyS hx1 hy1 HJ
            go_wp2_with fail
            refine wp_region_ext_all (by kernel_rfl) (by kernel_rfl) ?_
            repeat (go_big_quiet_step (exact calls_ext (compareUrgency_at _ _ _ _ _)))
            refine wpQuiet_nil ?_
            intro w5 b5
            clear e0 e1 e2 e3
            have z5 := b5.size
            go_wp2_with fail
            go_roundw
            case rel => exact ⟨k + 1, ik + 1, by go_num, Lib.hid (by rw [HI.out]; simp), by omega, hb3.trans (b5.mono hb3.size), by omega, by rw [HX.out, ← HQ.out, HR.out]; exact ow3.below b5 hh3, tt3.below b5⟩
            case measure => simp [intOf] <;> omega
    · have h1 : l.take (k + 1) = l := List.take_of_length_le (by have := HI.out; rw [← H.out]; omega)
      have h2 : l.drop (k + 1) = [] := List.drop_of_length_le (by have := HI.out; rw [← H.out]; omega)
      rw [h1, h2, List.append_nil] at ow
      go_wp2_with fail
      go_end0
      exact ⟨rfl, ow, hh2, hb, tt⟩
set_option maxHeartbeats 4000000 in
theorem pdqW_any (w0 : World) (v : Value) (l : List Wt) (n : Nat) (hn : n = l.length) (hn12 : n ≤ 12) (r : Int) (w : World) {hi : Nat} (hb0 : Below w0.heap.size w0 w) (h : Ow Wt.cells 2 67 w w0.heap.size hi v l) (hh : hi ≤ w.heap.size) :
    Calls Tryz.prog 104 #[v, .int .i64 0, .int .i64 n, .int .i64 r, .func (.func 78) #[] #[]] w fun e w' => e = .returned (.tuple #[]) ∧ Ow Wt.cells 2 67 w' w0.heap.size hi v (sortK Wt.lt l) ∧ hi ≤ w'.heap.size ∧ Below w0.heap.size w0 w' ∧ Turned w w' v l.length := by
  have c1 := isortW_any w0 v l n hn w hb0 h hh
  have hd : decide ((n : Int) ≤ 12) = true := decide_eq_true (by omega)
  clear hn
  go_enter Tryz.func104, Tryz.ntmps104
  go_wp2_with fail
  go_loopw [1, 2, 3, 10, 11] (fun a b c d e wr => wr = w ∧ a = .int .i64 0 ∧ b = .int .i64 n) (fun _ _ _ _ _ _ => 0)
  case atStart => exact ⟨rfl, rfl, rfl⟩
  case round =>
    obtain ⟨rfl, rfl, rfl⟩ := hrel
    go_wp2_with fail
    refine c1.mono ?_
    rintro e w1 ⟨rfl, o1, hh1, b1, t1⟩
    go_wp2_with fail
    (try simp only [Exit.inBlock, Exit.then]); refine bodyPost_ret (results_none rfl _ _ _) rfl ?_
    exact ⟨rfl, o1, hh1, b1, t1⟩

theorem sortW_any (w0 : World) (v : Value) (l : List Wt) (hl : l.length ≤ 12) (w : World) {hi : Nat} (hb0 : Below w0.heap.size w0 w) (h : Ow Wt.cells 2 67 w w0.heap.size hi v l) (hh : hi ≤ w.heap.size) :
    Calls Tryz.prog 82 #[v, .func (.func 78) #[] #[]] w fun e w' => e = .returned (.tuple #[]) ∧ Ow Wt.cells 2 67 w' w0.heap.size hi v (sortK Wt.lt l) ∧ hi ≤ w'.heap.size ∧ Below w0.heap.size w0 w' ∧ Turned w w' v l.length := by
  obtain ⟨A, n, c, rfl, H, hc, hm⟩ := h.rd.form
  rw [← H.out] at hl
  have c1 := fun r => pdqW_any w0 _ l n H.out hl r w hb0 h hh
  have c2 := fun W => len_small n W (by omega) (by omega)
  clear h
  go_enter Tryz.func82, Tryz.ntmps82
  go_wp2_with fail
  refine (c2 _).mono ?_; rintro e w' ⟨⟨r, rfl⟩, rfl⟩
  go_wp2_with fail
  refine (c1 r).mono ?_; rintro e w1 ⟨rfl, o1, hh1, b1, t1⟩
  go_wp2_with fail
  go_end0
  exact ⟨rfl, o1, hh1, b1, t1⟩

end Go.Proofs.YtfpaafmckeeecaaGreat

/- All pending interrupts in order, in the program and in the reference. Condition of the inner functions: valid parts. -/
namespace Go.Proofs.YtfpaafmckeeecaaGreat
open Go.RowKit Go.ChangeShapes Go.WideShapes Go.Deep

theorem map_take_succ {l : List Wt} {k : Nat} {x : Wt} (h : l[k]? = some x) : (l.take (k + 1)).map Wt.irq = (l.take k).map Wt.irq ++ [x.irq] := by rw [List.take_add_one, h, List.map_append]; rfl

set_option maxHeartbeats 8000000 in
set_option maxRecDepth 8000 in
theorem specPend_in (vs vw : Value) (ls : List Sl) (lw : List Wt) (w : World) {lo hi lo2 hi2 : Nat} (h : Rd Sl.cells 3 w lo hi vs ls) (h2 : Rd Wt.cells 2 w lo2 hi2 vw lw) (hh : hi ≤ w.heap.size) (hh2 : hi2 ≤ w.heap.size) (hp : Qu.parts ls lw = true) :
    Calls Tryz.prog 41 #[.agg #[vs, vw]] w fun e w' => ∃ v', e = .returned v' ∧ Ow Nm.cells 1 3 w' w.heap.size w'.heap.size v' ((Qu.all ls lw).map Wt.irq) ∧ Below w.heap.size w w' := by
  have b0 : Below w.heap.size w (w.alloc (.cells #[vs, vw] 27)) := (Below.refl w.heap.size w).alloc (Nat.le_refl _) _
  have z0 : (w.alloc (.cells #[vs, vw] 27)).heap.size = w.heap.size + 1 := by simp
  have bq := Box.new w #[vs, vw] 27 rfl
  have hs := h.below b0 hh
  have hw := h2.below b0 hh2
  have hv := h.form
  have hv2 := h2.form
  clear h h2
  generalize hwA : w.alloc (.cells #[vs, vw] 27) = wA at *
  obtain ⟨A0, n0, d0, rfl, H0, hd0, hm0⟩ := hv
  obtain ⟨A1, n1, d1, rfl, H1, hd1, hm1⟩ := hv2
  have hl1 := Sl.good_len (Qu.parts_get hp).1
  have hl2 := Qu.parts_len hp
  have hn0 : n0 ≤ 4 := by rw [H0.out]; omega
  have hn1 : n1 ≤ 8 := by rw [H1.out]; exact hl2
  clear hp hl1 hl2
  have o4 := own_empty_at wA (base := w.heap.size) (g := w.heap.size + 1) 67 2 z0.symm (by omega)
  have b4 := (Below.refl wA.heap.size wA).alloc (Nat.le_refl _) (.cells #[] 67)
  have hw4 := hw.below b4 (by omega)
  have x0 := (bq.below b4 bq.lt).cell (j := 0) rfl
  have x1 := (bq.below b4 bq.lt).cell (j := 1) rfl
  go_enter Tryz.func41, Tryz.ntmps41
  go_upto_region 2 with (at_builtin; (refine Wt.app_rd rfl _ _ rfl w.heap.size (.slice (some ⟨w.heap.size + 1, 0, none⟩) 0 0) 0 [] rfl o4 rfl hw4 (by omega) (by simp; omega) ?_); (intro v3 w3 o3 g3))
  clear hwA
  have b3 : Below w.heap.size w w3 := (b0.trans (b4.mono (by omega))).grown g3 (by simp; omega) (own_ge o4)
  replace bq := (bq.below b4 bq.lt).grown_own o4 g3 (by decide)
  have zz3 := g3.size
  have zz4 := b4.size
  replace hs := (hs.below b4 (by omega)).below ((Below.refl (wA.heap.size) _).grown g3 (by simp) (fun j hj => by simp [Value.ownBlock] at hj; omega)) (by omega)
  have oR := Ow.of_own Wt.cells_len o3 (l := lw) (by simp) (by rw [← H1.out]; omega)
  clear o3 o4 b4 hw4 g3 x0 x1 hw b0
  have HI := Lib.hid (show Qu.all (ls.take 0) lw = lw from rfl)
  go_wp2_with fail
  go_loopw [3, 4] (fun v i wr => ∃ (k : Nat), i = .int .i64 k ∧ k ≤ n0 ∧ Below w.heap.size w wr ∧ Box wr w.heap.size 27 [.slice A0 n0 d0, .slice A1 n1 d1] ∧ Rd Sl.cells 3 wr lo hi (.slice A0 n0 d0) ls ∧ Ow Wt.cells 2 67 wr w.heap.size wr.heap.size v (Qu.all (ls.take k) lw)) (fun _ i _ => n0 - (intOf i).toNat)
  case atStart => exact ⟨0, rfl, Nat.zero_le _, b3, bq, hs, by rw [HI.out]; exact oR⟩
  case round =>
    clear b3 bq hs oR HI
    obtain ⟨k, rfl, hk, hb, bq, hs, oR⟩ := hrel
    have x0 := bq.cell (j := 0) rfl
    have x1 := bq.cell (j := 1) rfl
    by_cases hlt : k < n0
    · obtain ⟨b, off, s, rfl, hsk, _, hbl, f0, f1, f2⟩ := Sl.get hs hlt (Below.refl wr.heap.size wr) (by have := hb.size; omega)
      have hki : (k : Int) < (n0 : Int) := by omega
      have hkd : decide ((k : Int) < (n0 : Int)) = true := decide_eq_true hki
      have zz := hb.size
      have b5 := (Below.refl wr.heap.size wr).alloc (Nat.le_refl _) (.cells #[.int .i64 s.state, .int .i64 s.irq, .int .i64 s.prio] 76)
      have bs := Box.new wr #[.int .i64 s.state, .int .i64 s.irq, .int .i64 s.prio] 76 rfl
      have zw := bq.lt
      go_upto_region 6 with fail
      replace bq := bq.below b5 bq.lt
      replace hs := hs.below b5 (by omega)
      replace oR := (oR.below b5 (Nat.le_refl _)).mono (Nat.le_refl _) b5.size
      replace hb := hb.trans (b5.mono hb.size)
      have zg := bs.lt
      clear b5 f0 f1 f2 x0 x1
      generalize wr.alloc _ = w5 at *
      generalize wr.heap.size = gs at *
      have hN := Qu.all_pre (lw := lw) hsk.out
      by_cases h13 : s.state = 1 ∨ s.state = 3
      · have HN := Lib.hid (show Qu.all (ls.take (k + 1)) lw = Wt.ins (Qu.all (ls.take k) lw) ⟨s.irq, s.prio⟩ from by
          rw [hN, if_pos (by rcases h13 with h | h <;> simp [Sl.isPend, h])]; rfl)
        have hal := Qu.all_len (ls.take k) lw
        rw [List.length_take] at hal
        have HA := Lib.hid (show (Qu.all (ls.take k) lw).length ≤ 1048576 from by rw [← H1.out] at hal; omega)
        clear hN hal
        obtain ⟨A3, n3, d3, rfl, _, _, _⟩ := oR.rd.form
        have y1 := bs.cell (j := 1) rfl
        have y2 := bs.cell (j := 2) rfl
        have y0 := bs.cell (j := 0) rfl
        rcases h13 with h13 | h13
        all_goals
          rw [h13] at y0
          clear h13
          go_wp2_with fail
          refine (specWait_any _ _ ⟨s.irq, s.prio⟩ w5 oR.rd (Nat.le_refl _) HA.out).mono ?_; rintro q_ w6 ⟨v6, rfl, o6, b6⟩
          go_wp2_with fail
          go_roundw
          case rel => exact ⟨k + 1, by go_num, by omega, hb.trans (b6.mono hb.size), bq.below b6 bq.lt, hs.below b6 (by omega), by rw [HN.out]; exact o6.mono (by omega) (Nat.le_refl _)⟩
          case measure => simp [intOf]; omega
      · have HN := Lib.hid (show Qu.all (ls.take (k + 1)) lw = Qu.all (ls.take k) lw from by
          rw [hN, if_neg (by intro e; simp [Sl.isPend] at e; exact h13 e)])
        have hb1 : (s.state == 1) = false := by rw [beq_eq_false_iff_ne]; exact fun e => h13 (.inl e)
        have hb3 : (s.state == 3) = false := by rw [beq_eq_false_iff_ne]; exact fun e => h13 (.inr e)
        have y0 := bs.cell (j := 0) rfl
        clear hN h13
        go_wp2_with fail
        go_roundw
        case rel => exact ⟨k + 1, by go_num, by omega, hb, bq, hs, by rw [HN.out]; exact oR⟩
        case measure => simp [intOf]; omega
    · have hk0 : k = n0 := by omega
      have hkd : decide ((k : Int) < (n0 : Int)) = false := decide_eq_false (by omega)
      have HE := Lib.hid (show ls.take k = ls from List.take_of_length_le (by rw [← H0.out]; omega))
      rw [HE.out] at oR
      clear hk0
      have hal := Qu.all_len ls lw
      rw [← H1.out, ← H0.out] at hal
      obtain ⟨A3, n3, d3, rfl, H3, _, _⟩ := oR.rd.form
      rw [← H3.out] at hal
      obtain ⟨xs, HX⟩ : ∃ xs, Hid (Qu.all ls lw = xs) := ⟨_, Lib.hid rfl⟩
      rw [HX.out] at oR
      simp only [HX.out] at H3
      have o6 := own_empty wr (base := w.heap.size) 3 1 hb.size
      have b6 := (Below.refl wr.heap.size wr).alloc (Nat.le_refl _) (.cells #[] 3)
      have hal3 : n3 ≤ 12 := by omega
      clear hal
      go_wp2_with fail
      replace hb := hb.trans (b6.mono hb.size)
      replace oR := oR.below b6 (Nat.le_refl _)
      have zz6 := b6.size
      clear b6 bq hs x0 x1
      generalize wr.alloc _ = w6 at *
      generalize wr.heap.size = g6 at *
      go_loopw [6, 7] (fun v i wz => ∃ j : Nat, i = .int .i64 j ∧ j ≤ n3 ∧ Below w.heap.size w wz ∧ Ow Wt.cells 2 67 wz w.heap.size wz.heap.size (.slice A3 n3 d3) xs ∧ wz.ownsRow w.heap.size 3 1 v j (((xs.take j).map Wt.irq).flatMap Nm.cells)) (fun _ i _ => n3 - (intOf i).toNat)
      case atStart => exact ⟨0, rfl, Nat.zero_le _, hb, oR.mono (Nat.le_refl _) (by omega), o6⟩
      case round =>
        clear hb oR o6
        obtain ⟨j, rfl, hj, hb, oR, ho⟩ := hrel
        by_cases hlt : j < n3
        · obtain ⟨b, off, x, rfl, hx, _, hbl, f0, f1⟩ := Wt.get oR.rd hlt (Below.refl wr.heap.size wr) (Nat.le_refl _)
          have hki : (j : Int) < (n3 : Int) := by omega
          have hkd : decide ((j : Int) < (n3 : Int)) = true := decide_eq_true hki
          have HM := Lib.hid (map_take_succ hx.out)
          have b7 := (Below.refl wr.heap.size wr).alloc (Nat.le_refl _) (.cells #[.int .i64 x.irq] 3)
          have ho7 := ho.alloc (.cells #[.int .i64 x.irq] 3)
          go_wp2_with (at_builtin; (refine Nm.app_one rfl _ _ rfl w.heap.size u6 j _ rfl ho7 (g := wr.heap.size) (c := 1) x.irq rfl (fun j u hu => cell_new _ _ _ rfl (by simpa [Nm.cells] using hu)) (by omega) (by have := hb.size; simp; omega) ?_); (intro v8 w8 ho8 g8))
          have zz8 := g8.size
          have zz7 := b7.size
          go_roundw
          case rel => exact ⟨j + 1, by go_num, by omega, (hb.alloc hb.size _).grown g8 (by have := hb.size; simp; omega) (own_ge ho7), ((oR.below b7 (Nat.le_refl _)).grown_own ho7 g8 (by decide)).mono (Nat.le_refl _) (by omega), by rw [HM.out, List.flatMap_append]; simpa using ho8⟩
          case measure => simp [intOf]; omega
        · have hkd : decide ((j : Int) < (n3 : Int)) = false := decide_eq_false (by omega)
          have HE := Lib.hid (show xs.take j = xs from List.take_of_length_le (by rw [← H3.out]; omega))
          rw [HE.out] at ho
          have oF := Ow.of_own Nm.cells_len ho rfl (by rw [List.length_map, ← H3.out]; omega)
          obtain ⟨A9, n9, d9, rfl, _, _, _⟩ := oF.rd.form
          go_wp2_with fail
          go_ret
          exact ⟨.slice A9 n9 d9, rfl, by rw [HX.out]; exact oF, hb⟩
set_option maxHeartbeats 8000000 in
set_option maxRecDepth 8000 in
theorem implPend_in (vs vw : Value) (ls : List Sl) (lw : List Wt) (w : World) {lo hi lo2 hi2 : Nat} (h : Rd Sl.cells 3 w lo hi vs ls) (h2 : Rd Wt.cells 2 w lo2 hi2 vw lw) (hh : hi ≤ w.heap.size) (hh2 : hi2 ≤ w.heap.size) (hp : Qu.parts ls lw = true) :
    Calls Tryz.prog 40 #[.agg #[vs, vw]] w fun e w' => ∃ v', e = .returned v' ∧ Ow Nm.cells 1 3 w' w.heap.size w'.heap.size v' ((Qu.all ls lw).map Wt.irq) ∧ Below w.heap.size w w' := by
  have b0 : Below w.heap.size w (w.alloc (.cells #[vs, vw] 27)) := (Below.refl w.heap.size w).alloc (Nat.le_refl _) _
  have z0 : (w.alloc (.cells #[vs, vw] 27)).heap.size = w.heap.size + 1 := by simp
  have bq := Box.new w #[vs, vw] 27 rfl
  have hs := h.below b0 hh
  have hw := h2.below b0 hh2
  have hv := h.form
  have hv2 := h2.form
  clear h h2
  generalize hwA : w.alloc (.cells #[vs, vw] 27) = wA at *
  obtain ⟨A0, n0, d0, rfl, H0, hd0, hm0⟩ := hv
  obtain ⟨A1, n1, d1, rfl, H1, hd1, hm1⟩ := hv2
  have hl1 := Sl.good_len (Qu.parts_get hp).1
  have hl2 := Qu.parts_len hp
  have hn0 : n0 ≤ 4 := by rw [H0.out]; omega
  have hn1 : n1 ≤ 8 := by rw [H1.out]; exact hl2
  have HA := Lib.hid (Qu.all_facts hp).1
  clear hp hl1 hl2
  have o4 := own_empty_at wA (base := w.heap.size) (g := w.heap.size + 1) 67 2 z0.symm (by omega)
  have b4 := (Below.refl wA.heap.size wA).alloc (Nat.le_refl _) (.cells #[] 67)
  have hw4 := hw.below b4 (by omega)
  have x0 := (bq.below b4 bq.lt).cell (j := 0) rfl
  have x1 := (bq.below b4 bq.lt).cell (j := 1) rfl
  go_enter Tryz.func40, Tryz.ntmps40
  go_upto_region 2 with (at_builtin; (refine Wt.app_rd rfl _ _ rfl w.heap.size (.slice (some ⟨w.heap.size + 1, 0, none⟩) 0 0) 0 [] rfl o4 rfl hw4 (by omega) (by simp; omega) ?_); (intro v3 w3 o3 g3))
  clear hwA
  have b3 : Below w.heap.size w w3 := (b0.trans (b4.mono (by omega))).grown g3 (by simp; omega) (own_ge o4)
  replace bq := (bq.below b4 bq.lt).grown_own o4 g3 (by decide)
  have zz3 := g3.size
  have zz4 := b4.size
  replace hs := (hs.below b4 (by omega)).below ((Below.refl (wA.heap.size) _).grown g3 (by simp) (fun j hj => by simp [Value.ownBlock] at hj; omega)) (by omega)
  have o5 := own_empty w3 (base := w.heap.size) 3 1 b3.size
  have b5 := (Below.refl w3.heap.size w3).alloc (Nat.le_refl _) (.cells #[] 3)
  replace o3 := own_below o3 b5
  replace bq := bq.below b5 bq.lt
  replace hs := hs.below b5 (by omega)
  replace b3 := b3.trans (b5.mono b3.size)
  clear o4 b4 hw4 g3 x0 x1 hw b0 b5
  obtain ⟨gI, hgI⟩ : ∃ g, g = w3.heap.size := ⟨_, rfl⟩
  rw [← hgI] at o5 ⊢
  generalize w3.alloc _ = w5 at *
  have x0 := bq.cell (j := 0) rfl
  have x1 := bq.cell (j := 1) rfl
  clear hgI
  go_wp2_with fail
  go_loopw [3, 17] (fun v i wr => ∃ (k m : Nat), i = .int .i64 k ∧ k ≤ n0 ∧ Hid (m = (lw ++ Sl.pends (ls.take k)).length) ∧ m ≤ 8 + k ∧ Below w.heap.size w wr ∧ Rd Sl.cells 3 wr lo hi (.slice A0 n0 d0) ls ∧ wr.ownsRow w.heap.size 67 2 v m ((lw ++ Sl.pends (ls.take k)).flatMap Wt.cells) ∧ wr.ownsRow w.heap.size 3 1 (.slice (some ⟨gI, 0, none⟩) 0 0) 0 []) (fun _ i _ => n0 - (intOf i).toNat)
  case atStart => exact ⟨0, n1, rfl, Nat.zero_le _, Lib.hid (by rw [H1.out]; simp [Sl.pends]), by omega, b3, hs, by simpa [Sl.pends] using o3, o5⟩
  case round =>
    clear b3 bq hs o3 o5 x0 x1
    obtain ⟨k, m, rfl, hk, HM, hm, hb, hs, ho, hI⟩ := hrel
    by_cases hlt : k < n0
    · obtain ⟨b, off, s, rfl, hsk, _, hbl, f0, f1, f2⟩ := Sl.get hs hlt (Below.refl wr.heap.size wr) (by have := hb.size; omega)
      have hki : (k : Int) < (n0 : Int) := by omega
      have hkd : decide ((k : Int) < (n0 : Int)) = true := decide_eq_true hki
      have zz := hb.size
      have b5 := (Below.refl wr.heap.size wr).alloc (Nat.le_refl _) (.cells #[.int .i64 s.state, .int .i64 s.irq, .int .i64 s.prio] 76)
      have bs := Box.new wr #[.int .i64 s.state, .int .i64 s.irq, .int .i64 s.prio] 76 rfl
      go_upto_region 5 with fail
      replace hs := hs.below b5 (by omega)
      replace ho := own_below ho b5
      replace hI := own_below hI b5
      replace hb := hb.trans (b5.mono hb.size)
      have zg := bs.lt
      clear b5 f0 f1 f2
      generalize wr.alloc _ = w5 at *
      generalize wr.heap.size = gs at *
      have hN := Sl.pends_pre hsk.out
      by_cases h13 : s.state = 1 ∨ s.state = 3
      · have HN := Lib.hid (show lw ++ Sl.pends (ls.take (k + 1)) = (lw ++ Sl.pends (ls.take k)) ++ [⟨s.irq, s.prio⟩] from by
          rw [hN, if_pos (by rcases h13 with h | h <;> simp [Sl.isPend, h]), List.append_assoc]; rfl)
        clear hN
        have y1 := bs.cell (j := 1) rfl
        have y2 := bs.cell (j := 2) rfl
        have y0 := bs.cell (j := 0) rfl
        rcases h13 with h13 | h13
        all_goals
          rw [h13] at y0
          clear h13
          go_wp2_with fail
          refine (waiterOf_at _ _ _ _).mono ?_; rintro q_ w6 ⟨rfl, b6⟩
          replace hs := hs.below b6 (by omega)
          replace ho := own_below ho b6
          replace hI := own_below hI b6
          replace hb := hb.trans (b6.mono hb.size)
          have zz6 := b6.size
          clear b6 y0 y1 y2
          have b7 := (Below.refl w6.heap.size w6).alloc (Nat.le_refl _) (.cells #[.int .i64 s.irq, .int .i64 s.prio] 67)
          have ho7 := ho.alloc (.cells #[.int .i64 s.irq, .int .i64 s.prio] 67)
          have hI7 := hI.alloc (.cells #[.int .i64 s.irq, .int .i64 s.prio] 67)
          go_wp2_with (at_builtin; (refine Wt.app_one rfl _ _ rfl w.heap.size u3 m _ rfl ho7 (g := w6.heap.size) (c := 1) ⟨s.irq, s.prio⟩ rfl (fun j u hu => cell_new _ _ _ rfl (by simpa [Wt.cells] using hu)) (by omega) (by have := hb.size; simp; omega) ?_); (intro v8 w8 ho8 g8))
          have zz8 := g8.size
          have zz7 := b7.size
          go_roundw
          case rel => exact ⟨k + 1, m + 1, by go_num, by omega, Lib.hid (by rw [HN.out, List.length_append, HM.out]; rfl), by omega, (hb.alloc hb.size _).grown g8 (by have := hb.size; simp; omega) (own_ge ho7), ((hs.below b7 (by omega)).below ((Below.refl w.heap.size _).grown g8 (by simp; omega) (own_ge ho7)) (by omega)), by rw [HN.out, List.flatMap_append]; simpa using ho8, own_kept_type hI7 ho7 g8 (by decide)⟩
          case measure => simp [intOf]; omega
      · have HN := Lib.hid (show Sl.pends (ls.take (k + 1)) = Sl.pends (ls.take k) from by
          rw [hN, if_neg (by intro e; simp [Sl.isPend] at e; exact h13 e), List.append_nil])
        have hb1 : (s.state == 1) = false := by rw [beq_eq_false_iff_ne]; exact fun e => h13 (.inl e)
        have hb3 : (s.state == 3) = false := by rw [beq_eq_false_iff_ne]; exact fun e => h13 (.inr e)
        have y0 := bs.cell (j := 0) rfl
        clear hN h13
        go_wp2_with fail
        go_roundw
        case rel => exact ⟨k + 1, m, by go_num, by omega, by rw [HN.out]; exact HM, by omega, hb, hs, by rw [HN.out]; exact ho, hI⟩
        case measure => simp [intOf]; omega
    · have hk0 : k = n0 := by omega
      have hkd : decide ((k : Int) < (n0 : Int)) = false := decide_eq_false (by omega)
      have HE := Lib.hid (show ls.take k = ls from List.take_of_length_le (by rw [← H0.out]; omega))
      rw [HE.out] at ho HM
      clear hk0 hs
      have oW := Ow.of_own Wt.cells_len ho rfl HM.out
      have c1 := fun hl => sortW_any w u3 (lw ++ Sl.pends ls) hl wr hb oW (Nat.le_refl _)
      have c1 := c1 (by rw [← HM.out]; omega)
      rw [HA.out] at c1
      obtain ⟨xs, HX⟩ : ∃ xs, Hid (Qu.all ls lw = xs) := ⟨_, Lib.hid rfl⟩
      rw [HX.out] at c1
      have H3 := Lib.hid (show m = xs.length from by rw [← HX.out, ← HA.out, sortK_len]; exact HM.out)
      have hal3 : m ≤ 12 := by omega
      obtain ⟨A3, n3, d3, rfl, H4, _, _⟩ := oW.rd.form
      obtain rfl : n3 = m := H4.out.trans HM.out.symm
      clear ho H4
      go_wp2_with fail
      refine c1.mono ?_; rintro q_ w6 ⟨rfl, oR, hz6, hb6, t6⟩
      have o6 := own_turned hI oW t6 (by decide)
      clear hI oW t6 c1 hb
      replace oR := oR.mono (Nat.le_refl _) hz6
      have hb := hb6
      clear hb6 hz6
      go_wp2_with fail
      go_loopw [4, 39] (fun v i wz => ∃ j : Nat, i = .int .i64 j ∧ j ≤ n3 ∧ Below w.heap.size w wz ∧ Ow Wt.cells 2 67 wz w.heap.size wz.heap.size (.slice A3 n3 d3) xs ∧ wz.ownsRow w.heap.size 3 1 v j (((xs.take j).map Wt.irq).flatMap Nm.cells)) (fun _ i _ => n3 - (intOf i).toNat)
      case atStart => exact ⟨0, rfl, Nat.zero_le _, hb, oR.mono (Nat.le_refl _) (by omega), o6⟩
      case round =>
        clear hb oR o6
        obtain ⟨j, rfl, hj, hb, oR, ho⟩ := hrel
        by_cases hlt : j < n3
        · obtain ⟨b, off, x, rfl, hx, _, hbl, f0, f1⟩ := Wt.get oR.rd hlt (Below.refl wr.heap.size wr) (Nat.le_refl _)
          have hki : (j : Int) < (n3 : Int) := by omega
          have hkd : decide ((j : Int) < (n3 : Int)) = true := decide_eq_true hki
          have HM := Lib.hid (map_take_succ hx.out)
          have b5 := (Below.refl wr.heap.size wr).alloc (Nat.le_refl _) (.cells #[.int .i64 x.irq, .int .i64 x.prio] 67)
          have bs := Box.new wr #[.int .i64 x.irq, .int .i64 x.prio] 67 rfl
          go_upto_region 12 with fail
          replace oR := (oR.below b5 (Nat.le_refl _)).mono (Nat.le_refl _) b5.size
          replace ho := own_below ho b5
          replace hb := hb.trans (b5.mono hb.size)
          have zg := bs.lt
          have zz5 := b5.size
          clear b5 f0 f1
          generalize wr.alloc _ = w5 at *
          generalize wr.heap.size = gs at *
          have y0 := bs.cell (j := 0) rfl
          have y1 := bs.cell (j := 1) rfl
          have b7 := (Below.refl w5.heap.size w5).alloc (Nat.le_refl _) (.cells #[.int .i64 x.irq] 3)
          have ho7 := ho.alloc (.cells #[.int .i64 x.irq] 3)
          go_wp2_with (at_builtin; (refine Nm.app_one rfl _ _ rfl w.heap.size u4 j _ rfl ho7 (g := w5.heap.size) (c := 1) x.irq rfl (fun j u hu => cell_new _ _ _ rfl (by simpa [Nm.cells] using hu)) (by omega) (by have := hb.size; simp; omega) ?_); (intro v8 w8 ho8 g8))
          have zz8 := g8.size
          have zz7 := b7.size
          go_roundw
          case rel => exact ⟨j + 1, by go_num, by omega, (hb.alloc hb.size _).grown g8 (by have := hb.size; simp; omega) (own_ge ho7), ((oR.below b7 (Nat.le_refl _)).grown_own ho7 g8 (by decide)).mono (Nat.le_refl _) (by omega), by rw [HM.out, List.flatMap_append]; simpa using ho8⟩
          case measure => simp [intOf]; omega
        · have hkd : decide ((j : Int) < (n3 : Int)) = false := decide_eq_false (by omega)
          have HE := Lib.hid (show xs.take j = xs from List.take_of_length_le (by rw [← H3.out]; omega))
          rw [HE.out] at ho
          have oF := Ow.of_own Nm.cells_len ho rfl (by rw [List.length_map, ← H3.out]; omega)
          obtain ⟨A9, n9, d9, rfl, _, _, _⟩ := oF.rd.form
          go_wp2_with fail
          go_ret
          exact ⟨.slice A9 n9 d9, rfl, by rw [HX.out]; exact oF, hb⟩
set_option maxHeartbeats 4000000 in
theorem specPendingIrqs_any (vs vw : Value) (ls : List Sl) (lw : List Wt) (w : World) {lo hi lo2 hi2 : Nat} (h : Rd Sl.cells 3 w lo hi vs ls) (h2 : Rd Wt.cells 2 w lo2 hi2 vw lw) (hh : hi ≤ w.heap.size) (hh2 : hi2 ≤ w.heap.size) :
    Calls Tryz.prog 13 #[.agg #[vs, vw]] w fun e w' => ∃ v', e = .returned (.tuple #[v', .bool (Qu.good ls lw)]) ∧ Ow Nm.cells 1 3 w' w.heap.size w'.heap.size v' (Qu.peL ls lw) ∧ Below w.heap.size w w' := by
  have b0 : Below w.heap.size w (w.alloc (.cells #[vs, vw] 27)) := (Below.refl w.heap.size w).alloc (Nat.le_refl _) _
  have z0 : (w.alloc (.cells #[vs, vw] 27)).heap.size = w.heap.size + 1 := by simp
  have bq := Box.new w #[vs, vw] 27 rfl
  have hs := h.below b0 hh
  have hw := h2.below b0 hh2
  have hv := h.form
  have hv2 := h2.form
  clear h h2
  generalize hwA : w.alloc (.cells #[vs, vw] 27) = wA at *
  obtain ⟨A0, n0, d0, rfl, H0, hd0, hm0⟩ := hv
  obtain ⟨A1, n1, d1, rfl, H1, hd1, hm1⟩ := hv2
  have c1 := l9Good_any _ _ ls lw wA hs hw (by omega) (by omega)
  have x0 := bq.cell (j := 0) rfl
  have x1 := bq.cell (j := 1) rfl
  cases hg : Qu.good ls lw
  · have HF := Lib.hid (Qu.pe_no hg)
    rw [hg] at c1
    clear hg
    go_enter Tryz.func13, Tryz.ntmps13
    go_wp2_with fail
    refine c1.mono ?_; rintro q_ w1 ⟨rfl, b1⟩
    replace b0 := b0.trans (b1.mono (by omega))
    go_wp2_with fail
    go_ret2
    exact ⟨_, rfl, by rw [HF.out]; exact Ow.lit0, b0.alloc b0.size _⟩
  · have HF := Lib.hid (Qu.pe_yes hg)
    have HP := Lib.hid (Qu.good_parts hg).1
    rw [hg] at c1
    clear hg
    go_enter Tryz.func13, Tryz.ntmps13
    go_wp2_with fail
    clear hwA
    refine c1.mono ?_; rintro q_ w1 ⟨rfl, b1⟩
    replace bq := bq.below b1 bq.lt
    have z1 := b1.size
    replace hs := hs.below b1 (by omega)
    replace hw := hw.below b1 (by omega)
    replace b0 := b0.trans (b1.mono (by omega))
    clear b1 x0 x1
    have x0 := bq.cell (j := 0) rfl
    have x1 := bq.cell (j := 1) rfl
    go_wp2_with fail
    refine (specPend_in _ _ ls lw w1 hs hw (by omega) (by omega) HP.out).mono ?_; rintro q_ w2 ⟨v2, rfl, o2, b2⟩
    go_wp2_with fail
    go_ret2
    exact ⟨_, rfl, by rw [HF.out]; exact o2.mono (by omega) (Nat.le_refl _), b0.trans (b2.mono b0.size)⟩
set_option maxHeartbeats 4000000 in
theorem implPendingIrqs_any (vs vw : Value) (ls : List Sl) (lw : List Wt) (w : World) {lo hi lo2 hi2 : Nat} (h : Rd Sl.cells 3 w lo hi vs ls) (h2 : Rd Wt.cells 2 w lo2 hi2 vw lw) (hh : hi ≤ w.heap.size) (hh2 : hi2 ≤ w.heap.size) :
    Calls Tryz.prog 12 #[.agg #[vs, vw]] w fun e w' => ∃ v', e = .returned (.tuple #[v', .bool (Qu.good ls lw)]) ∧ Ow Nm.cells 1 3 w' w.heap.size w'.heap.size v' (Qu.peL ls lw) ∧ Below w.heap.size w w' := by
  have b0 : Below w.heap.size w (w.alloc (.cells #[vs, vw] 27)) := (Below.refl w.heap.size w).alloc (Nat.le_refl _) _
  have z0 : (w.alloc (.cells #[vs, vw] 27)).heap.size = w.heap.size + 1 := by simp
  have bq := Box.new w #[vs, vw] 27 rfl
  have hs := h.below b0 hh
  have hw := h2.below b0 hh2
  have hv := h.form
  have hv2 := h2.form
  clear h h2
  generalize hwA : w.alloc (.cells #[vs, vw] 27) = wA at *
  obtain ⟨A0, n0, d0, rfl, H0, hd0, hm0⟩ := hv
  obtain ⟨A1, n1, d1, rfl, H1, hd1, hm1⟩ := hv2
  have c1 := implIsQueue_any _ _ ls lw wA hs hw (by omega) (by omega)
  have x0 := bq.cell (j := 0) rfl
  have x1 := bq.cell (j := 1) rfl
  cases hg : Qu.good ls lw
  · have HF := Lib.hid (Qu.pe_no hg)
    rw [hg] at c1
    clear hg
    go_enter Tryz.func12, Tryz.ntmps12
    go_wp2_with fail
    refine c1.mono ?_; rintro q_ w1 ⟨rfl, b1⟩
    replace b0 := b0.trans (b1.mono (by omega))
    go_wp2_with fail
    go_ret2
    exact ⟨_, rfl, by rw [HF.out]; exact Ow.lit0, b0⟩
  · have HF := Lib.hid (Qu.pe_yes hg)
    have HP := Lib.hid (Qu.good_parts hg).1
    rw [hg] at c1
    clear hg
    go_enter Tryz.func12, Tryz.ntmps12
    go_wp2_with fail
    clear hwA
    refine c1.mono ?_; rintro q_ w1 ⟨rfl, b1⟩
    replace bq := bq.below b1 bq.lt
    have z1 := b1.size
    replace hs := hs.below b1 (by omega)
    replace hw := hw.below b1 (by omega)
    replace b0 := b0.trans (b1.mono (by omega))
    clear b1 x0 x1
    have x0 := bq.cell (j := 0) rfl
    have x1 := bq.cell (j := 1) rfl
    go_wp2_with fail
    refine (implPend_in _ _ ls lw w1 hs hw (by omega) (by omega) HP.out).mono ?_; rintro q_ w2 ⟨v2, rfl, o2, b2⟩
    go_wp2_with fail
    go_ret2
    exact ⟨_, rfl, by rw [HF.out]; exact o2.mono (by omega) (Nat.le_refl _), b0.trans (b2.mono b0.size)⟩

end Go.Proofs.YtfpaafmckeeecaaGreat

/- Serving a queue, in the program and in the reference. No condition. -/
namespace Go.Proofs.YtfpaafmckeeecaaGreat
open Go.RowKit Go.ChangeShapes Go.WideShapes Go.Deep

theorem Sl.tkW_no {ls : List Sl} {m : Int} (h : Sl.tkOk ls m = false) : Sl.tkW ls m = -1 := by simp [Sl.tkW, h]
theorem Sl.tk_both {ls : List Sl} {m : Int} (h : Sl.tkOk ls m = true) : Sl.tkW ls m = Sl.tkI ls ∧ Sl.tkL ls m = Sl.tkS ls ∧ Sl.tkV ls m = Sl.tkI ls ∧ Sl.tkR ls m = Sl.tkS ls := by simp [Sl.tkW, Sl.tkL, Sl.tkV, Sl.tkR, h]

set_option maxHeartbeats 8000000 in
theorem specServeQueue_any (vs vw : Value) (ls : List Sl) (lw : List Wt) (w : World) {lo hi lo2 hi2 : Nat} (h : Rd Sl.cells 3 w lo hi vs ls) (h2 : Rd Wt.cells 2 w lo2 hi2 vw lw) (hh : hi ≤ w.heap.size) (hh2 : hi2 ≤ w.heap.size) :
    Calls Tryz.prog 8 #[.agg #[vs, vw]] w fun e w' => ∃ v', e = .returned (.tuple #[v', .bool (Qu.good ls lw)]) ∧ Ow Nm.cells 1 3 w' w.heap.size w'.heap.size v' (Qu.svL ls lw) ∧ Below w.heap.size w w' := by
  have b0 : Below w.heap.size w (w.alloc (.cells #[vs, vw] 27)) := (Below.refl w.heap.size w).alloc (Nat.le_refl _) _
  have z0 : (w.alloc (.cells #[vs, vw] 27)).heap.size = w.heap.size + 1 := by simp
  have bq := Box.new w #[vs, vw] 27 rfl
  have hs := h.below b0 hh
  have hw := h2.below b0 hh2
  have hv := h.form
  have hv2 := h2.form
  clear h h2
  generalize hwA : w.alloc (.cells #[vs, vw] 27) = wA at *
  obtain ⟨A0, n0, d0, rfl, _, _, _⟩ := hv
  obtain ⟨A1, n1, d1, rfl, _, _, _⟩ := hv2
  have o4 := own_empty_at wA (base := w.heap.size) (g := w.heap.size + 1) 3 1 z0.symm (by omega)
  have b4 := (Below.refl wA.heap.size wA).alloc (Nat.le_refl _) (.cells #[] 3)
  have c1 := l9Good_any _ _ ls lw (wA.alloc (.cells #[] 3)) (hs.below b4 (by omega)) (hw.below b4 (by omega)) (by have := b4.size; omega) (by have := b4.size; omega)
  cases hg : Qu.good ls lw
  · have HF := Lib.hid (Qu.sv_no hg)
    rw [hg] at c1
    clear hg
    have x0 := bq.cell (j := 0) rfl
    have x1 := bq.cell (j := 1) rfl
    have z := bq.lt
    go_enter Tryz.func8, Tryz.ntmps8
    go_wp2_with fail
    refine c1.mono ?_; rintro q_ w1 ⟨rfl, b1⟩
    go_wp2_with fail
    go_ret2
    exact ⟨_, rfl, by rw [HF.out]; exact Ow.lit0, b0.trans ((b4.trans (b1.mono b4.size)).mono (by omega))⟩
  · have HF := Lib.hid (Qu.sv_yes hg)
    have HG := Lib.hid hg
    rw [hg] at c1
    clear hg
    have x0 := bq.cell (j := 0) rfl
    have x1 := bq.cell (j := 1) rfl
    have z := bq.lt
    go_enter Tryz.func8, Tryz.ntmps8
    go_wp2_with fail
    clear hwA
    refine c1.mono ?_; rintro q_ w1 ⟨rfl, b1⟩
    clear x0 x1 z
    have o1 := own_below o4 b1
    have b5 := b4.trans (b1.mono b4.size)
    replace bq := bq.below b5 bq.lt
    have zz5 := b5.size
    replace hs := hs.below b5 (by omega)
    replace hw := hw.below b5 (by omega)
    replace b0 := b0.trans (b5.mono (by omega))
    clear o4 b4 b1 b5
    have x0 := bq.cell (j := 0) rfl
    have x1 := bq.cell (j := 1) rfl
    go_wp2_with fail
    clear x0 x1
    go_loopg [4] (Qu.pc ls lw) (fun gk v4 wr => ∃ (ls' : List Sl) (lw' : List Wt) (xs : List Int) (j : Nat) (A0 A1 : Option Addr) (n0 d0 n1 d1 lo hi lo2 hi2 : Nat), Hid (Qu.good ls' lw' = true) ∧ Hid (Qu.serve ls lw = xs ++ Qu.serve ls' lw') ∧ Hid (Qu.pc ls' lw' ≤ gk) ∧ Hid (j = xs.length) ∧ j + gk ≤ 12 ∧ Below w.heap.size w wr ∧ Box wr w.heap.size 27 [.slice A0 n0 d0, .slice A1 n1 d1] ∧ Rd Sl.cells 3 wr lo hi (.slice A0 n0 d0) ls' ∧ Rd Wt.cells 2 wr lo2 hi2 (.slice A1 n1 d1) lw' ∧ hi ≤ wr.heap.size ∧ hi2 ≤ wr.heap.size ∧ wr.ownsRow w.heap.size 3 1 v4 j (xs.flatMap Nm.cells))
    case atStart => exact ⟨ls, lw, [], 0, _, _, _, _, _, _, _, _, _, _, HG, Lib.hid rfl, Lib.hid (Nat.le_refl _), Lib.hid rfl, by have := Qu.pc_le (Qu.good_parts HG.out).1; omega, b0, bq, hs, hw, by omega, by omega, o1⟩
    case round =>
      clear b0 bq hs hw o1 HG
      obtain ⟨ls', lw', xs, j, A0, A1, n0, d0, n1, d1, lo, hi, lo2, hi2, HG, HS, HM, HJ, hj, hB, bq, hs, hw, hh, hh2, ho⟩ := hrel
      have hp := (Qu.good_parts HG.out).1
      have hsg := (Qu.parts_get hp).1
      have hl2 := Qu.parts_len hp
      have c1 := specTakeQ_in _ _ ls' lw' 16 wr hs hw hh hh2 hsg (by omega)
      have x0 := bq.cell (j := 0) rfl
      have x1 := bq.cell (j := 1) rfl
      have z := bq.lt
      cases hk : Sl.tkOk ls' 16
      · have HE := Lib.hid (show Qu.serve ls lw = xs from by rw [HS.out, Qu.serve_no hk, List.append_nil])
        rw [Sl.tkW_no hk] at c1
        clear hk hp hsg hl2
        go_wp2_with fail
        refine c1.mono ?_; rintro q_ w3 ⟨v5, v6, rfl, o5, o6, b3⟩
        obtain ⟨A5, n5, d5, rfl, _, _, _⟩ := o5.rd.form
        obtain ⟨A6, n6, d6, rfl, _, _, _⟩ := o6.rd.form
        replace ho := own_below ho b3
        replace hB := hB.trans (b3.mono hB.size)
        have oR := Ow.of_own Nm.cells_len ho rfl HJ.out
        have b6 := (Below.refl w3.heap.size w3).alloc (Nat.le_refl _) (.cells #[.slice A5 n5 d5, .slice A6 n6 d6] 27)
        obtain ⟨A9, n9, d9, rfl, _, _, _⟩ := oR.rd.form
        go_wp2_with fail
        go_ret2
        exact ⟨_, rfl, by rw [HF.out, HE.out]; exact (oR.below b6 (Nat.le_refl _)).mono (Nat.le_refl _) b6.size, hB.trans (b6.mono hB.size)⟩
      · have HT := Lib.hid (Qu.tk_end hp hk).1
        have HP2 := Lib.hid (Qu.tk_parts hp hk)
        have HG2 := Lib.hid (Qu.nx_good hp hk)
        have HS2 := Lib.hid (show Qu.serve ls lw = (xs ++ [Sl.tkI ls']) ++ Qu.serve (Qu.nx ls' lw').1 (Qu.nx ls' lw').2 from by rw [HS.out, Qu.serve_yes hp hk, List.append_assoc]; rfl)
        have hpc := Qu.nx_pc hp hk
        obtain ⟨m, rfl⟩ : ∃ m, gk = m + 1 := ⟨gk - 1, by have := HM.out; omega⟩
        have HM2 := Lib.hid (show Qu.pc (Qu.nx ls' lw').1 (Qu.nx ls' lw').2 ≤ m by have := HM.out; omega)
        have HX := Lib.hid (Qu.ei_yes HT.out lw')
        have hd : decide (Sl.tkI ls' < 0) = false := decide_eq_false (by have := Sl.tk_irq hsg hk; omega)
        rw [(Sl.tk_both hk).1, (Sl.tk_both hk).2.1] at c1
        clear hk hp hsg hl2 hpc HM HS
        go_wp2_with fail
        refine c1.mono ?_; rintro q_ w3 ⟨v5, v6, rfl, o5, o6, b3⟩
        obtain ⟨A5, n5, d5, rfl, _, _, _⟩ := o5.rd.form
        obtain ⟨A6, n6, d6, rfl, _, _, _⟩ := o6.rd.form
        replace ho := own_below ho b3
        replace bq := bq.below b3 bq.lt
        have zz3 := b3.size
        replace hB := hB.trans (b3.mono hB.size)
        clear b3 x0 x1 z hs hw c1
        generalize hgI : Sl.tkI ls' = ir at *
        have HI := Lib.hid hgI
        clear hgI
        have b6 := (Below.refl w3.heap.size w3).alloc (Nat.le_refl _) (.cells #[.slice A5 n5 d5, .slice A6 n6 d6] 27)
        have bn := Box.new w3 #[.slice A5 n5 d5, .slice A6 n6 d6] 27 rfl
        go_upto_region 7 with fail
        replace o5 := o5.below b6 (Nat.le_refl _)
        replace o6 := o6.below b6 (Nat.le_refl _)
        replace ho := own_below ho b6
        replace bq := bq.below b6 bq.lt
        have zz6 := b6.size
        have zz7 : w3.heap.size < (w3.alloc (.cells #[.slice A5 n5 d5, .slice A6 n6 d6] 27)).heap.size := by simp
        replace hB := hB.trans (b6.mono hB.size)
        clear b6
        generalize w3.alloc _ = w4 at *
        generalize w3.heap.size = gN at *
        have b7 := (Below.refl w4.heap.size w4).alloc (Nat.le_refl _) (.cells #[.int .i64 ir] 3)
        have ho7 := ho.alloc (.cells #[.int .i64 ir] 3)
        go_upto_region 8 with (at_builtin; (refine Nm.app_one rfl _ _ rfl w.heap.size u4 j _ rfl ho7 (g := w4.heap.size) (c := 1) ir rfl (fun j u hu => cell_new _ _ _ rfl (by simpa [Nm.cells] using hu)) (by omega) (by have := hB.size; simp; omega) ?_); (intro v8 w8 ho8 g8))
        have b8 : Below w.heap.size w w8 := (hB.alloc hB.size _).grown g8 (by have := hB.size; simp; omega) (own_ge ho7)
        replace bq := (bq.below b7 bq.lt).grown_own ho7 g8 (by decide)
        replace bn := (bn.below b7 bn.lt).grown_own ho7 g8 (by decide)
        replace o5 := (o5.below b7 (by omega)).grown_own ho7 g8 (by decide)
        replace o6 := (o6.below b7 (by omega)).grown_own ho7 g8 (by decide)
        have zz8 := g8.size
        have zz9 := b7.size
        clear ho7 b7 g8 ho hB
        have y0 := bn.cell (j := 0) rfl
        have y1 := bn.cell (j := 1) rfl
        have zn := bn.lt
        go_wp2_with fail
        refine (specEndQ_in _ _ (Sl.tkS ls') lw' ir w8 o5.rd o6.rd (by omega) (by omega) HP2.out).mono ?_; rintro q_ w9 ⟨v9, v10, rfl, o9, o10, b9⟩
        rw [HX.out.1, ← HI.out] at o9
        rw [HX.out.2, ← HI.out] at o10
        obtain ⟨A9, n9, d9, rfl, _, _, _⟩ := o9.rd.form
        obtain ⟨A10, n10, d10, rfl, _, _, _⟩ := o10.rd.form
        replace bq := bq.below b9 bq.lt
        replace ho8 := own_below ho8 b9
        have zz10 := b9.size
        replace b8 := b8.trans (b9.mono b8.size)
        clear b9 y0 y1 bn o5 o6 zn
        have x0 := bq.cell (j := 0) rfl
        have x1 := bq.cell (j := 1) rfl
        have xz := bq.frozen
        have z := bq.lt
        go_wp2_with fail
        go_roundg m
        case rel =>
          generalize hwz : World.setCell (World.setCell _ _ _) _ _ = wz
          obtain rfl : wz = setL w9 w.heap.size 0 [.slice A9 n9 d9, .slice A10 n10 d10] := hwz.symm
          clear hwz
          have sz : (setL w9 w.heap.size 0 [.slice A9 n9 d9, .slice A10 n10 d10]).heap.size = w9.heap.size := setL_size _ _ _ _
          refine ⟨(Qu.nx ls' lw').1, (Qu.nx ls' lw').2, xs ++ [ir], j + 1, _, _, _, _, _, _, _, _, _, _, HG2, HS2, HM2, Lib.hid (by rw [List.length_append, HJ.out]; rfl), by omega, setL_below b8 _ _ 0 (Nat.le_refl _), bq.setAll _ rfl, (o9.box bq (by decide) 0 _).rd, (o10.box bq (by decide) 0 _).rd, by omega, by omega, ?_⟩
          rw [List.flatMap_append]
          have := own_box ho8 bq (by decide) 0 [.slice A9 n9 d9, .slice A10 n10 d10]
          simpa using this
        case measure => exact Nat.lt_succ_self _
set_option maxHeartbeats 8000000 in
theorem implServeQueue_any (vs vw : Value) (ls : List Sl) (lw : List Wt) (w : World) {lo hi lo2 hi2 : Nat} (h : Rd Sl.cells 3 w lo hi vs ls) (h2 : Rd Wt.cells 2 w lo2 hi2 vw lw) (hh : hi ≤ w.heap.size) (hh2 : hi2 ≤ w.heap.size) :
    Calls Tryz.prog 7 #[.agg #[vs, vw]] w fun e w' => ∃ v', e = .returned (.tuple #[v', .bool (Qu.good ls lw)]) ∧ Ow Nm.cells 1 3 w' w.heap.size w'.heap.size v' (Qu.svL ls lw) ∧ Below w.heap.size w w' := by
  have b0 : Below w.heap.size w (w.alloc (.cells #[vs, vw] 27)) := (Below.refl w.heap.size w).alloc (Nat.le_refl _) _
  have z0 : (w.alloc (.cells #[vs, vw] 27)).heap.size = w.heap.size + 1 := by simp
  have bq := Box.new w #[vs, vw] 27 rfl
  have hs := h.below b0 hh
  have hw := h2.below b0 hh2
  have hv := h.form
  have hv2 := h2.form
  clear h h2
  generalize hwA : w.alloc (.cells #[vs, vw] 27) = wA at *
  obtain ⟨A0, n0, d0, rfl, _, _, _⟩ := hv
  obtain ⟨A1, n1, d1, rfl, _, _, _⟩ := hv2
  have c1 := implIsQueue_any _ _ ls lw wA hs hw (by omega) (by omega)
  cases hg : Qu.good ls lw
  · have HF := Lib.hid (Qu.sv_no hg)
    rw [hg] at c1
    clear hg
    have x0 := bq.cell (j := 0) rfl
    have x1 := bq.cell (j := 1) rfl
    have z := bq.lt
    go_enter Tryz.func7, Tryz.ntmps7
    go_wp2_with fail
    refine c1.mono ?_; rintro q_ w1 ⟨rfl, b1⟩
    go_wp2_with fail
    go_ret2
    exact ⟨_, rfl, by rw [HF.out]; exact Ow.lit0, b0.trans (b1.mono (by omega))⟩
  · have HF := Lib.hid (Qu.sv_yes hg)
    have HG := Lib.hid hg
    rw [hg] at c1
    clear hg
    have x0 := bq.cell (j := 0) rfl
    have x1 := bq.cell (j := 1) rfl
    have z := bq.lt
    go_enter Tryz.func7, Tryz.ntmps7
    go_wp2_with fail
    clear hwA
    refine c1.mono ?_; rintro q_ w1 ⟨rfl, b1⟩
    clear x0 x1 z
    replace bq := bq.below b1 bq.lt
    have zz1 := b1.size
    replace hs := hs.below b1 (by omega)
    replace hw := hw.below b1 (by omega)
    replace b0 := b0.trans (b1.mono (by omega))
    clear b1
    have x0 := bq.cell (j := 0) rfl
    have x1 := bq.cell (j := 1) rfl
    have o1 := own_empty w1 (base := w.heap.size) 3 1 b0.size
    have b4 := (Below.refl w1.heap.size w1).alloc (Nat.le_refl _) (.cells #[] 3)
    go_wp2_with fail
    clear x0 x1
    replace bq := bq.below b4 bq.lt
    have zz5 := b4.size
    replace hs := hs.below b4 (by omega)
    replace hw := hw.below b4 (by omega)
    replace b0 := b0.trans (b4.mono (by omega))
    clear b4
    generalize w1.alloc _ = w1 at *
    go_loopg [4] (Qu.pc ls lw) (fun gk v4 wr => ∃ (ls' : List Sl) (lw' : List Wt) (xs : List Int) (j : Nat) (A0 A1 : Option Addr) (n0 d0 n1 d1 lo hi lo2 hi2 : Nat), Hid (Qu.good ls' lw' = true) ∧ Hid (Qu.serve ls lw = xs ++ Qu.serve ls' lw') ∧ Hid (Qu.pc ls' lw' ≤ gk) ∧ Hid (j = xs.length) ∧ j + gk ≤ 12 ∧ Below w.heap.size w wr ∧ Box wr w.heap.size 27 [.slice A0 n0 d0, .slice A1 n1 d1] ∧ Rd Sl.cells 3 wr lo hi (.slice A0 n0 d0) ls' ∧ Rd Wt.cells 2 wr lo2 hi2 (.slice A1 n1 d1) lw' ∧ hi ≤ wr.heap.size ∧ hi2 ≤ wr.heap.size ∧ wr.ownsRow w.heap.size 3 1 v4 j (xs.flatMap Nm.cells))
    case atStart => exact ⟨ls, lw, [], 0, _, _, _, _, _, _, _, _, _, _, HG, Lib.hid rfl, Lib.hid (Nat.le_refl _), Lib.hid rfl, by have := Qu.pc_le (Qu.good_parts HG.out).1; omega, b0, bq, hs, hw, by omega, by omega, o1⟩
    case round =>
      clear b0 bq hs hw o1 HG
      obtain ⟨ls', lw', xs, j, A0, A1, n0, d0, n1, d1, lo, hi, lo2, hi2, HG, HS, HM, HJ, hj, hB, bq, hs, hw, hh, hh2, ho⟩ := hrel
      have hp := (Qu.good_parts HG.out).1
      have hsg := (Qu.parts_get hp).1
      have hl2 := Qu.parts_len hp
      have c1 := implTakeQ_in _ _ ls' lw' 16 wr hs hw hh hh2 hsg (by omega)
      have x0 := bq.cell (j := 0) rfl
      have x1 := bq.cell (j := 1) rfl
      have z := bq.lt
      cases hk : Sl.tkOk ls' 16
      · have HE := Lib.hid (show Qu.serve ls lw = xs from by rw [HS.out, Qu.serve_no hk, List.append_nil])
        rw [hk, (Sl.tk_no hk).2.2.1] at c1
        clear hk hp hsg hl2
        go_wp2_with fail
        refine c1.mono ?_; rintro q_ w3 ⟨v5, v6, rfl, o5, o6, b3⟩
        obtain ⟨A5, n5, d5, rfl, _, _, _⟩ := o5.rd.form
        obtain ⟨A6, n6, d6, rfl, _, _, _⟩ := o6.rd.form
        replace ho := own_below ho b3
        replace hB := hB.trans (b3.mono hB.size)
        have oR := Ow.of_own Nm.cells_len ho rfl HJ.out
        have b6 := (Below.refl w3.heap.size w3).alloc (Nat.le_refl _) (.cells #[.slice A5 n5 d5, .slice A6 n6 d6] 27)
        obtain ⟨A9, n9, d9, rfl, _, _, _⟩ := oR.rd.form
        go_wp2_with fail
        go_ret2
        exact ⟨_, rfl, by rw [HF.out, HE.out]; exact (oR.below b6 (Nat.le_refl _)).mono (Nat.le_refl _) b6.size, hB.trans (b6.mono hB.size)⟩
      · have HT := Lib.hid (Qu.tk_end hp hk).1
        have HP2 := Lib.hid (Qu.tk_parts hp hk)
        have HG2 := Lib.hid (Qu.nx_good hp hk)
        have HS2 := Lib.hid (show Qu.serve ls lw = (xs ++ [Sl.tkI ls']) ++ Qu.serve (Qu.nx ls' lw').1 (Qu.nx ls' lw').2 from by rw [HS.out, Qu.serve_yes hp hk, List.append_assoc]; rfl)
        have hpc := Qu.nx_pc hp hk
        obtain ⟨m, rfl⟩ : ∃ m, gk = m + 1 := ⟨gk - 1, by have := HM.out; omega⟩
        have HM2 := Lib.hid (show Qu.pc (Qu.nx ls' lw').1 (Qu.nx ls' lw').2 ≤ m by have := HM.out; omega)
        have HX := Lib.hid (Qu.ei_yes HT.out lw')
        rw [hk, (Sl.tk_both hk).2.2.1, (Sl.tk_both hk).2.2.2, show Qu.tkK ls' 16 lw' = lw' from by simp [Qu.tkK, hk]] at c1
        clear hk hp hsg hl2 hpc HM HS
        go_wp2_with fail
        refine c1.mono ?_; rintro q_ w3 ⟨v5, v6, rfl, o5, o6, b3⟩
        obtain ⟨A5, n5, d5, rfl, _, _, _⟩ := o5.rd.form
        obtain ⟨A6, n6, d6, rfl, _, _, _⟩ := o6.rd.form
        replace ho := own_below ho b3
        replace bq := bq.below b3 bq.lt
        have zz3 := b3.size
        replace hB := hB.trans (b3.mono hB.size)
        clear b3 x0 x1 z hs hw c1
        generalize hgI : Sl.tkI ls' = ir at *
        have HI := Lib.hid hgI
        clear hgI
        have b6 := (Below.refl w3.heap.size w3).alloc (Nat.le_refl _) (.cells #[.slice A5 n5 d5, .slice A6 n6 d6] 27)
        have bn := Box.new w3 #[.slice A5 n5 d5, .slice A6 n6 d6] 27 rfl
        go_upto_region 7 with fail
        replace o5 := o5.below b6 (Nat.le_refl _)
        replace o6 := o6.below b6 (Nat.le_refl _)
        replace ho := own_below ho b6
        replace bq := bq.below b6 bq.lt
        have zz6 := b6.size
        have zz7 : w3.heap.size < (w3.alloc (.cells #[.slice A5 n5 d5, .slice A6 n6 d6] 27)).heap.size := by simp
        replace hB := hB.trans (b6.mono hB.size)
        clear b6
        generalize w3.alloc _ = w4 at *
        generalize w3.heap.size = gN at *
        have b7 := (Below.refl w4.heap.size w4).alloc (Nat.le_refl _) (.cells #[.int .i64 ir] 3)
        have ho7 := ho.alloc (.cells #[.int .i64 ir] 3)
        go_upto_region 8 with (at_builtin; (refine Nm.app_one rfl _ _ rfl w.heap.size u4 j _ rfl ho7 (g := w4.heap.size) (c := 1) ir rfl (fun j u hu => cell_new _ _ _ rfl (by simpa [Nm.cells] using hu)) (by omega) (by have := hB.size; simp; omega) ?_); (intro v8 w8 ho8 g8))
        have b8 : Below w.heap.size w w8 := (hB.alloc hB.size _).grown g8 (by have := hB.size; simp; omega) (own_ge ho7)
        replace bq := (bq.below b7 bq.lt).grown_own ho7 g8 (by decide)
        replace bn := (bn.below b7 bn.lt).grown_own ho7 g8 (by decide)
        replace o5 := (o5.below b7 (by omega)).grown_own ho7 g8 (by decide)
        replace o6 := (o6.below b7 (by omega)).grown_own ho7 g8 (by decide)
        have zz8 := g8.size
        have zz9 := b7.size
        clear ho7 b7 g8 ho hB
        have y0 := bn.cell (j := 0) rfl
        have y1 := bn.cell (j := 1) rfl
        have zn := bn.lt
        go_wp2_with fail
        refine (implEndQ_in _ _ (Sl.tkS ls') lw' ir w8 o5.rd o6.rd (by omega) (by omega) HP2.out).mono ?_; rintro q_ w9 ⟨v9, v10, rfl, o9, o10, b9⟩
        rw [HX.out.1, ← HI.out] at o9
        rw [HX.out.2, ← HI.out] at o10
        obtain ⟨A9, n9, d9, rfl, _, _, _⟩ := o9.rd.form
        obtain ⟨A10, n10, d10, rfl, _, _, _⟩ := o10.rd.form
        replace bq := bq.below b9 bq.lt
        replace ho8 := own_below ho8 b9
        have zz10 := b9.size
        replace b8 := b8.trans (b9.mono b8.size)
        clear b9 y0 y1 bn o5 o6 zn
        have x0 := bq.cell (j := 0) rfl
        have x1 := bq.cell (j := 1) rfl
        have xz := bq.frozen
        have z := bq.lt
        go_wp2_with fail
        go_roundg m
        case rel =>
          generalize hwz : World.setCell (World.setCell _ _ _) _ _ = wz
          obtain rfl : wz = setL w9 w.heap.size 0 [.slice A9 n9 d9, .slice A10 n10 d10] := hwz.symm
          clear hwz
          have sz : (setL w9 w.heap.size 0 [.slice A9 n9 d9, .slice A10 n10 d10]).heap.size = w9.heap.size := setL_size _ _ _ _
          refine ⟨(Qu.nx ls' lw').1, (Qu.nx ls' lw').2, xs ++ [ir], j + 1, _, _, _, _, _, _, _, _, _, _, HG2, HS2, HM2, Lib.hid (by rw [List.length_append, HJ.out]; rfl), by omega, setL_below b8 _ _ 0 (Nat.le_refl _), bq.setAll _ rfl, (o9.box bq (by decide) 0 _).rd, (o10.box bq (by decide) 0 _).rd, by omega, by omega, ?_⟩
          rw [List.flatMap_append]
          have := own_box ho8 bq (by decide) 0 [.slice A9 n9 d9, .slice A10 n10 d10]
          simpa using this
        case measure => exact Nat.lt_succ_self _

end Go.Proofs.YtfpaafmckeeecaaGreat
