/- Lemmas and walks that the last text of this claim leans on, part 3. No condition. -/
import Derived.Test.YtndfmkbpdoohfaaGreatMcFoB
/- A waiting interrupt put in its place, in the program and in the reference. Condition: at most 1048576 waiting interrupts. -/
namespace Go.Proofs.YtndfmkbpdoohfaaGreat
open Go.RowKit Go.ChangeShapes Go.WideShapes Go.Deep

theorem Rd.dropn {α : Type} {cells : α → List Value} {sz : Nat} {w : World} {lo hi n c : Nat} {A : Option Addr} {l : List α} (h : Rd cells sz w lo hi (.slice A n c) l) {k : Nat} (hk : k ≤ n) : Rd cells sz w lo hi (.slice (if c = k then A else Option.map (fun x => x.add (k * sz)) A) (n - k) (c - k)) (l.drop k) := by
 obtain ⟨A', c', hv, h1, h2, h3⟩ := h
 injection hv with e1 e2 e3
 subst e1; subst e2; subst e3
 have hl : (l.drop k).length = l.length - k := by rw [List.length_drop]
 refine ⟨_, c - k, by rw [hl], by omega, by omega, fun hn => ?_⟩
 obtain ⟨b, off, hA, hb1, hb2, hx⟩ := h3 (by omega)
 refine ⟨b, off + k * sz, by rw [if_neg (by omega), hA]; simp [Go.WideShapes.add_plain], hb1, hb2, fun i x hi j u hu => ?_⟩
 rw [List.getElem?_drop] at hi
 have := hx (k + i) x hi j u hu
 rwa [show off + (k + i) * sz + j = off + k * sz + i * sz + j by rw [Nat.add_mul]; omega] at this
theorem step_app_rd2 {α : Type} {cells : α → List Value} {P : Program} {w : World} {ops : Array Oper} {o : Oper} {a : Act} {K : Act → World → Prop} {Q : Exit → Act → World → Prop} {E : Prop} (hgd : o.guard = none) (s x : Operand) (t : TypeId)
  (ho : o.op = .call { callee := .builtin .append, args := #[s, x], argTypes := #[t, t] })
  (base : Nat) (e : TypeId) (i : TypeInfo) (z : Value) (sz bytes : Nat) (ht : P.underlying t = some (.slice e)) (hi : P.info? e = some i) (hz : i.zero = some z)
  (hsize : i.size = sz) (hby : i.bytes = bytes) (hzs : z.cells.size = sz) (hsz : 0 < sz) (hcl : ∀ x, (cells x).length = sz) (h1 : ∀ y u, u ∈ cells y → u.oneCell' = true)
  (v : Value) (n : Nat) (xs : List Value) (hs : a.eval s = v) (hown : w.ownsRow base e sz v n xs) {lo hi' m c : Nat} {A : Option Addr} {l : List α} (hx : a.eval x = .slice A m c) (hr : Rd cells sz w lo hi' (.slice A m c) l)
  (h63 : n + m ≤ maxLen) (hbytes : (n + m) * bytes ≤ 140737488355328) (hbase : base ≤ w.heap.size)
  (h : ∀ v' w', w'.ownsRow base e sz v' (n + m) (xs ++ l.flatMap cells) → w.grownBy w' v.ownBlock → (v'.ownBlock = v.ownBlock ∨ v'.ownBlock = some w.heap.size) → K (a.put o.dst v') w') : if Region.wanted o (yielded ops a.tmps) = true then Oper.wp P o a w K Q else E := by
 have hw : Region.wanted o (yielded ops a.tmps) = true := by simp [Region.wanted, hgd]
 rw [if_pos hw]
 have hk : ∃ v' w', (Builtin.append_ #[t, t] o.type #[v, .slice A m c]).run P w = .ok v' w' ∧ w'.ownsRow base e sz v' (n + m) (xs ++ l.flatMap cells) ∧ w.grownBy w' v.ownBlock ∧ (v'.ownBlock = v.ownBlock ∨ v'.ownBlock = some w.heap.size) := by
  obtain ⟨A', c', hv, hc, hm, hcell⟩ := hr
  injection hv with e1 e2 e3
  subst e1; subst e2; subst e3
  rcases A with _ | ad
  ·have hl : l = [] := by
    rcases Nat.eq_zero_or_pos l.length with h0 | h0
    ·exact List.eq_nil_of_length_eq_zero h0
    ·obtain ⟨b, off, hA, _⟩ := hcell h0
     cases hA
   subst hl
   refine ⟨v, w, ?_, by simpa using hown, World.grownBy.refl w _, .inl rfl⟩
   rcases hown.2 with ⟨rfl, rfl⟩ | ⟨g, cap, cur, rfl, _, _, hnc, _⟩
   ·simp [Builtin.append_, run_underlying ht, sizeOf, typeInfo, hi, Builtin.lenOf, Builtin.firstCells]
   ·simp [Builtin.append_, run_underlying ht, sizeOf, typeInfo, hi, Builtin.lenOf, Builtin.firstCells, hnc, storeCells]
  ·have hnews : ∀ j u, (l.flatMap cells)[j]? = some u → w.cell? (ad.add j) = some u := by
    intro j u hu
    obtain ⟨k, y, i', hk, hy, rfl⟩ := flat_inv hcl l j u hu
    have hlt := (List.getElem?_eq_some_iff.1 hk).1
    obtain ⟨b, off, hA, _, _, h⟩ := hcell (by omega)
    injection hA with hA
    subst hA
    rw [Go.WideShapes.add_plain, ← Nat.add_assoc]
    exact h k y hk i' u hy
   obtain ⟨v', w', hrun, h2, h3, _, h5⟩ := run_append_own_at (P := P) w base t o.type e i z sz bytes ht hi hz hsize hby hzs hsz v n xs hown ad l.length c (l.flatMap cells) (flat_len hcl l) hnews
    (fun u hu => by obtain ⟨y, _, hy⟩ := List.mem_flatMap.1 hu; exact h1 y u hy) h63 hbytes hbase
   exact ⟨v', w', hrun, h2, h3, h5⟩
 obtain ⟨v', w', hrun, h2, h3, h4⟩ := hk
 unfold Oper.wp execOp
 simp only [ho, resolve, invoke, builtin, Sem.run_bind, Sem.run_pure, Result.andThen_ok, List.map_toArray, List.map_cons, List.map_nil, hs, hx, hrun]
 exact h v' w' h2 h3 h4
theorem own_lt {w : World} {base n sz : Nat} {E : TypeId} {v : Value} {xs : List Value} (h : w.ownsRow base E sz v n xs) (g : Nat) (hg : v.ownBlock = some g) : g < w.heap.size := by
 rcases h.2 with ⟨rfl, _⟩ | ⟨g', cap, cur, rfl, _, hh, _⟩
 ·simp [Value.ownBlock] at hg
 ·simp [Value.ownBlock] at hg
  subst hg
  exact (Array.getElem?_eq_some_iff.1 hh).1
theorem dropA_some (k c s b off : Nat) : (if c = k then (some ⟨b, off, none⟩ : Option Addr) else Option.map (fun x : Addr => x.add (k * s)) (some ⟨b, off, none⟩)) = if c = k then (some ⟨b, off, none⟩ : Option Addr) else some ⟨b, off + k * s, none⟩ := by split <;> simp [Go.WideShapes.add_plain]

set_option maxHeartbeats 8000000 in
theorem specWait_any (v : Value) (l : List Wt) (x : Wt) (w : World) {lo hi : Nat} (h : Rd Wt.cells 2 w lo hi v l) (hh : hi ≤ w.heap.size) (hl : l.length ≤ 1048576) :
  Calls Tryz.prog 130 #[v, .agg #[.int .i64 x.irq, .int .i64 x.prio]] w fun e w' => ∃ v', e = .returned v' ∧ Ow Wt.cells 2 107 w' w.heap.size w'.heap.size v' (Wt.ins l x) ∧ Below w.heap.size w w' := by
 have bW : Below w.heap.size w (w.alloc (.cells #[.int .i64 x.irq, .int .i64 x.prio] 107)) := (Below.refl w.heap.size w).alloc (Nat.le_refl _) _
 have z0 : (w.alloc (.cells #[.int .i64 x.irq, .int .i64 x.prio] 107)).heap.size = w.heap.size + 1 := by simp
 have q0 : (w.alloc (.cells #[.int .i64 x.irq, .int .i64 x.prio] 107)).cell? ⟨w.heap.size, 0, none⟩ = some (.int .i64 x.irq) := by simp
 have q1 : (w.alloc (.cells #[.int .i64 x.irq, .int .i64 x.prio] 107)).cell? ⟨w.heap.size, 1, none⟩ = some (.int .i64 x.prio) := by simp
 have hrd := h.below bW hh
 replace hh : hi ≤ (w.alloc (.cells #[.int .i64 x.irq, .int .i64 x.prio] 107)).heap.size := by omega
 obtain ⟨A, n, c, rfl, H, hc, hm⟩ := h.form
 have hn : n ≤ 1048576 := by rw [H.out]; exact hl
 clear h hl
 obtain ⟨i0, hi0, hz0, hz1, hz2⟩ := info_parts Wt.info
 go_enter Tryz.func130, Tryz.ntmps130
 go_wp2_with fail
 generalize w.alloc _ = wA at *
 go_loopw [5] (fun q wr => ∃ k : Nat, q = .int .i64 k ∧ k ≤ n ∧ Below wA.heap.size wA wr ∧ Hid (∀ (j : Nat) (y : Wt), j < k → l[j]? = some y → y.lt x = true)) (fun q _ => n - (intOf q).toNat)
 case atStart => exact ⟨0, rfl, Nat.zero_le _, Below.refl _ _, Lib.hid (fun j y hj => by omega)⟩
 case round =>
  obtain ⟨k, rfl, hkn, hb, HJ⟩ := hrel
  replace hrd := hrd.below hb hh
  replace q0 := (hb.cell (p := ⟨w.heap.size, 0, none⟩) (by show w.heap.size < _; omega)).trans q0
  replace q1 := (hb.cell (p := ⟨w.heap.size, 1, none⟩) (by show w.heap.size < _; omega)).trans q1
  have zz := hb.size
  by_cases hlt : k < n
  ·have hd : decide ((k : Int) < (n : Int)) = true := decide_eq_true (by omega)
   obtain ⟨b, off, y, rfl, hy, _, hbl, f0, f1⟩ := Wt.get hrd hlt (Below.refl wr.heap.size wr) (by omega)
   have hik : (k : Int) < (n : Int) := by omega
   have c6 := fun W => l8Less_any y.prio y.irq x.prio x.irq W
   cases hq : Wt.lt ⟨y.irq, y.prio⟩ ⟨x.irq, x.prio⟩
   ·rw [hq] at c6
    have HQ := Lib.hid (show Wt.pos x l = k from Wt.pos_eq x l k (by rw [← H.out]; exact hkn) HJ.out (fun z hz => by rw [hy.out] at hz; obtain rfl := Option.some.inj hz; exact hq))
    clear hq HJ
    go_wp2_with fail
    go_quiet ((go_at_call 132; refine Calls.quiet_of_same ((c6 _).mono fun _ _ h => ⟨h.1, h.2.symm⟩)))
    go_wp2_with fail
    have hbn := below_drewN (bW.trans (hb.mono (by omega))) nq
    have hrn := hrd.drewN nq
    have q0n : (wr.drewN nq).cell? ⟨w.heap.size, 0, none⟩ = some (.int .i64 x.irq) := q0
    have q1n : (wr.drewN nq).cell? ⟨w.heap.size, 1, none⟩ = some (.int .i64 x.prio) := q1
    have zn : wr.heap.size = (wr.drewN nq).heap.size := rfl
    rw [zn] at zz
    clear bW hrd q0 q1 f0 f1 hb c6 hd zn
    generalize wr.drewN nq = w0 at hbn hrn q0n q1n zz ⊢
    have bW := hbn; have hrd := hrn; have q0 := q0n; have q1 := q1n
    clear hbn hrn q0n q1n
    replace hh : hi ≤ w0.heap.size := by omega
    have zq : w.heap.size < w0.heap.size := by omega
    have hkc : k ≤ c := by omega
    have hkrd := hrd.take_ hkn
    have hdrd := hrd.dropn hkn
    rw [dropA_some] at hdrd
    have SH : ∀ W, Below w0.heap.size w0 W → (fun (W : World) => W.cell? ⟨w.heap.size, 0, none⟩ = some (.int .i64 x.irq) ∧ W.cell? ⟨w.heap.size, 1, none⟩ = some (.int .i64 x.prio)) W := fun W hb => ⟨(hb.cell (p := ⟨w.heap.size, 0, none⟩) zq).trans q0, (hb.cell (p := ⟨w.heap.size, 1, none⟩) zq).trans q1⟩
    refine wp_region_held_drew (S := fun W => W.cell? ⟨w.heap.size, 0, none⟩ = some (.int .i64 x.irq) ∧ W.cell? ⟨w.heap.size, 1, none⟩ = some (.int .i64 x.prio)) (by kernel_rfl) (SH _ (Below.refl w0.heap.size w0).drew) (fun hHeld => ?_)
    refine wpAnyH_take (i := 1) (v := .slice (some ⟨b, off, none⟩) n c) rfl (by kernel_rfl) (by kernel_rfl) (by kernel_rfl) (fun _ _ _ h => h) (Or.inl ⟨by rfl, by intro w hSw; obtain ⟨y0, y1⟩ := hSw; go_simp⟩) hHeld ?_
    refine wpAnyH_take (i := 2) (v := .int .i64 k) rfl (by kernel_rfl) (by kernel_rfl) (by kernel_rfl) (fun _ _ _ h => h) (Or.inl ⟨by rfl, by intro w hSw; obtain ⟨y0, y1⟩ := hSw; go_simp⟩) hHeld ?_
    refine wpAnyH_take (i := 3) (v := .slice (some ⟨b, off, none⟩) k c) rfl (by kernel_rfl) (by kernel_rfl) (by kernel_rfl) (fun _ _ _ h => h) (Or.inl ⟨by rfl, by intro w hSw; obtain ⟨y0, y1⟩ := hSw; go_simp⟩) hHeld ?_
    refine wpAnyH_take (i := 5) (v := .agg #[.int .i64 x.irq, .int .i64 x.prio]) rfl (by kernel_rfl) (by kernel_rfl) (by kernel_rfl) (fun _ _ _ h => h) (Or.inl ⟨by rfl, by intro w hSw; obtain ⟨y0, y1⟩ := hSw; go_simp⟩) hHeld ?_
    refine wpAnyH_take (i := 8) (v := .slice (some ⟨b, off, none⟩) n c) rfl (by kernel_rfl) (by kernel_rfl) (by kernel_rfl) (fun _ _ _ h => h) (Or.inl ⟨by rfl, by intro w hSw; obtain ⟨y0, y1⟩ := hSw; go_simp⟩) hHeld ?_
    refine wpAnyH_take (i := 9) (v := .int .i64 k) rfl (by kernel_rfl) (by kernel_rfl) (by kernel_rfl) (fun _ _ _ h => h) (Or.inl ⟨by rfl, by intro w hSw; obtain ⟨y0, y1⟩ := hSw; go_simp⟩) hHeld ?_
    refine wpAnyH_take (i := 10) (v := .slice (if c = k then (some ⟨b, off, none⟩ : Option Addr) else some ⟨b, off + k * 2, none⟩) (n - k) (c - k)) rfl (by kernel_rfl) (by kernel_rfl) (by kernel_rfl) (fun _ _ _ h => h) (Or.inl ⟨by rfl, by intro w hSw; obtain ⟨y0, y1⟩ := hSw; go_simp⟩) hHeld ?_
    clear hHeld
    generalize (if c = k then (some ⟨b, off, none⟩ : Option Addr) else some ⟨b, off + k * 2, none⟩) = B0 at hdrd ⊢
    refine held_gen (F := fun W' => Below w0.heap.size w0 W') (Below.refl w0.heap.size w0).drew ?_
    rintro W0 b0'
    refine wpAnyH_ready (rs := [0, 6]) (by kernel_rfl) (by decide) ?_
    refine AllReadyH.cons rfl (fun K0 hK0 => ?_) (AllReadyH.cons rfl (fun K0 hK0 => ?_) AllReadyH.nil)
    ·go_simp
     refine hK0.out _ _ (SH _ (b0'.alloc b0'.size (.cells #[] 107))) (fun _ => ?_)
     obtain ⟨gS, hgS⟩ : ∃ g, g = W0.heap.size := ⟨_, rfl⟩
     have zgS : w0.heap.size ≤ gS := by rw [hgS]; exact b0'.size
     rw [← hgS]
     refine held_gen (F := fun W' => Below w0.heap.size w0 W' ∧ W'.ownsRow w0.heap.size 107 2 (.slice (some ⟨gS, 0, none⟩) 0 0) 0 [] ∧ gS < W'.heap.size) ⟨b0'.alloc b0'.size (.cells #[] 107), own_empty_at W0 (g := gS) 107 2 hgS b0'.size, by simp [hgS]⟩ ?_
     clear hgS
     rintro W1 ⟨b1, hS1, lS1⟩
     refine wpAnyH_ready (rs := [4, 6]) (by kernel_rfl) (by decide) ?_
     refine AllReadyH.cons rfl (fun K1 hK1 => ?_) (AllReadyH.cons rfl (fun K1 hK1 => ?_) AllReadyH.nil)
     ·refine step_app_rd rfl _ _ 26 rfl w0.heap.size 107 i0 _ 2 _ Tryz.underlying26 hi0 hz0 hz1 hz2 rfl (by omega) Wt.cells_len Wt.one (.slice (some ⟨gS, 0, none⟩) 0 0) (0) [] rfl hS1 (A := some ⟨b, off, none⟩) (m := k) (c := c) (l := (l.take k)) rfl (hkrd.below b1 hh) (by unfold maxLen; omega) (by omega) b1.size ?_
      intro v2 W2 hS2 g2
      have b2 : Below w0.heap.size w0 W2 := b1.grown g2 b1.size (own_ge hS1)
      refine hK1.out _ _ (SH _ b2) (fun _ => ?_)
      refine wpAnyH_ready (rs := [6]) (by kernel_rfl) (by decide) ?_
      refine AllReadyH.cons rfl (fun K2 hK2 => ?_) AllReadyH.nil
      ·go_simp
       refine hK2.out _ _ (SH _ (b2.alloc b2.size (.cells #[.int .i64 x.irq, .int .i64 x.prio] 107))) (fun _ => ?_)
       obtain ⟨gX, hgX⟩ : ∃ g, g = W2.heap.size := ⟨_, rfl⟩
       have zgX : w0.heap.size ≤ gX := by rw [hgX]; exact b2.size
       rw [← hgX]
       refine held_gen (F := fun W' => Below w0.heap.size w0 W' ∧ (∀ (j : Nat) (u : Value), (Wt.cells x)[j]? = some u → W'.cell? ⟨gX, j, none⟩ = some u) ∧ W'.heap[gX]? = some (.cells #[.int .i64 x.irq, .int .i64 x.prio] 107 (0, 0)) ∧ gX < W'.heap.size ∧ W'.ownsRow w0.heap.size 107 2 v2 (0 + k) ([] ++ (l.take k).flatMap Wt.cells) ∧ (∀ g, v2.ownBlock = some g → g ≠ gX)) ⟨b2.alloc b2.size (.cells #[.int .i64 x.irq, .int .i64 x.prio] 107), fun j u hu => cell_new W2 _ _ hgX (by simpa [Wt.cells] using hu), by rw [hgX]; exact heap_alloc_new _ _, by simp [hgX], hS2.alloc (.cells #[.int .i64 x.irq, .int .i64 x.prio] 107), fun g hg e => by have := own_lt hS2 g hg; omega⟩ ?_
       clear hgX
       rintro W3 ⟨b3, hX3, lH3, lX3, hS3, lS3⟩
       refine wpAnyH_ready (rs := [7]) (by kernel_rfl) (by decide) ?_
       refine AllReadyH.cons rfl (fun K3 hK3 => ?_) AllReadyH.nil
       ·refine step_app_rd rfl _ _ 26 rfl w0.heap.size 107 i0 _ 2 _ Tryz.underlying26 hi0 hz0 hz1 hz2 rfl (by omega) Wt.cells_len Wt.one v2 (0 + k) ([] ++ (l.take k).flatMap Wt.cells) rfl hS3 (A := some ⟨gX, 0, none⟩) (m := 1) (c := 1) (l := [x]) rfl (rd_one hX3) (by unfold maxLen; omega) (by omega) b3.size ?_
        intro v4 W4 hS4 g4
        have b4 : Below w0.heap.size w0 W4 := b3.grown g4 b3.size (own_ge hS3)
        refine hK3.out _ _ (SH _ b4) (fun _ => ?_)
        refine wpAnyH_ready (rs := [11]) (by kernel_rfl) (by decide) ?_
        refine AllReadyH.cons rfl (fun K4 hK4 => ?_) AllReadyH.nil
        ·refine step_app_rd rfl _ _ 26 rfl w0.heap.size 107 i0 _ 2 _ Tryz.underlying26 hi0 hz0 hz1 hz2 rfl (by omega) Wt.cells_len Wt.one v4 (0 + k + 1) (([] ++ (l.take k).flatMap Wt.cells) ++ [x].flatMap Wt.cells) rfl hS4 (A := B0) (m := n - k) (c := c - k) (l := (l.drop k)) rfl (hdrd.below b4 hh) (by unfold maxLen; omega) (by omega) b4.size ?_
         intro v5 W5 hS5 g5
         have b5 : Below w0.heap.size w0 W5 := b4.grown g5 b4.size (own_ge hS4)
         refine hK4.out _ _ (SH _ b5) (fun _ => ?_)
         refine wpAnyH_ready (rs := [12]) (by kernel_rfl) (by decide) ?_
         refine AllReadyH.cons rfl (fun K5 hK5 => ?_) AllReadyH.nil
         ·go_simp
          refine hK5.out _ _ (SH _ b5) (fun _ => ?_)
          refine ⟨by kernel_rfl, ?_⟩
          go_wp2_with fail
          go_ret
          have oS := Ow.of_own Wt.cells_len hS5 (l := Wt.ins l x) (by rw [Wt.ins, HQ.out]; simp) (by rw [Wt.ins_len]; have := H.out; omega)
          exact ⟨_, rfl, oS.mono bW.size (Nat.le_refl _), bW.trans (b5.mono bW.size)⟩
     ·go_simp
      refine hK1.out _ _ (SH _ (b1.alloc b1.size (.cells #[.int .i64 x.irq, .int .i64 x.prio] 107))) (fun _ => ?_)
      obtain ⟨gX, hgX⟩ : ∃ g, g = W1.heap.size := ⟨_, rfl⟩
      have zgX : w0.heap.size ≤ gX := by rw [hgX]; exact b1.size
      have gne : gX ≠ gS := by have := lS1; omega
      rw [← hgX]
      refine held_gen (F := fun W' => Below w0.heap.size w0 W' ∧ (∀ (j : Nat) (u : Value), (Wt.cells x)[j]? = some u → W'.cell? ⟨gX, j, none⟩ = some u) ∧ W'.heap[gX]? = some (.cells #[.int .i64 x.irq, .int .i64 x.prio] 107 (0, 0)) ∧ gX < W'.heap.size ∧ W'.ownsRow w0.heap.size 107 2 (.slice (some ⟨gS, 0, none⟩) 0 0) 0 [] ∧ gS < W'.heap.size) ⟨b1.alloc b1.size (.cells #[.int .i64 x.irq, .int .i64 x.prio] 107), fun j u hu => cell_new W1 _ _ hgX (by simpa [Wt.cells] using hu), by rw [hgX]; exact heap_alloc_new _ _, by simp [hgX], hS1.alloc (.cells #[.int .i64 x.irq, .int .i64 x.prio] 107), by simp; have := lS1; omega⟩ ?_
      clear hgX
      rintro W2 ⟨b2, hX2, lH2, lX2, hS2, lS2⟩
      refine wpAnyH_ready (rs := [4]) (by kernel_rfl) (by decide) ?_
      refine AllReadyH.cons rfl (fun K2 hK2 => ?_) AllReadyH.nil
      ·refine step_app_rd rfl _ _ 26 rfl w0.heap.size 107 i0 _ 2 _ Tryz.underlying26 hi0 hz0 hz1 hz2 rfl (by omega) Wt.cells_len Wt.one (.slice (some ⟨gS, 0, none⟩) 0 0) (0) [] rfl hS2 (A := some ⟨b, off, none⟩) (m := k) (c := c) (l := (l.take k)) rfl (hkrd.below b2 hh) (by unfold maxLen; omega) (by omega) b2.size ?_
       intro v3 W3 hS3 g3
       have b3 : Below w0.heap.size w0 W3 := b2.grown g3 b2.size (own_ge hS2)
       refine hK2.out _ _ (SH _ b3) (fun _ => ?_)
       have hX3 : ∀ (j : Nat) (u : Value), (Wt.cells x)[j]? = some u → W3.cell? ⟨gX, j, none⟩ = some u := fun j u hu => g3.cell (hX2 j u hu) (by simp only [Value.ownBlock, ne_eq, Option.some.injEq]; omega)
       have lX3 : gX < W3.heap.size := by have := g3.size; have := lX2; omega
       have lH3 : W3.heap[gX]? = some (.cells #[.int .i64 x.irq, .int .i64 x.prio] 107 (0, 0)) := (g3.block gX lX2 (by simp only [Value.ownBlock, ne_eq, Option.some.injEq]; omega)).trans lH2
       refine wpAnyH_ready (rs := [7]) (by kernel_rfl) (by decide) ?_
       refine AllReadyH.cons rfl (fun K3 hK3 => ?_) AllReadyH.nil
       ·refine step_app_rd rfl _ _ 26 rfl w0.heap.size 107 i0 _ 2 _ Tryz.underlying26 hi0 hz0 hz1 hz2 rfl (by omega) Wt.cells_len Wt.one v3 (0 + k) ([] ++ (l.take k).flatMap Wt.cells) rfl hS3 (A := some ⟨gX, 0, none⟩) (m := 1) (c := 1) (l := [x]) rfl (rd_one hX3) (by unfold maxLen; omega) (by omega) b3.size ?_
        intro v4 W4 hS4 g4
        have b4 : Below w0.heap.size w0 W4 := b3.grown g4 b3.size (own_ge hS3)
        refine hK3.out _ _ (SH _ b4) (fun _ => ?_)
        refine wpAnyH_ready (rs := [11]) (by kernel_rfl) (by decide) ?_
        refine AllReadyH.cons rfl (fun K4 hK4 => ?_) AllReadyH.nil
        ·refine step_app_rd rfl _ _ 26 rfl w0.heap.size 107 i0 _ 2 _ Tryz.underlying26 hi0 hz0 hz1 hz2 rfl (by omega) Wt.cells_len Wt.one v4 (0 + k + 1) (([] ++ (l.take k).flatMap Wt.cells) ++ [x].flatMap Wt.cells) rfl hS4 (A := B0) (m := n - k) (c := c - k) (l := (l.drop k)) rfl (hdrd.below b4 hh) (by unfold maxLen; omega) (by omega) b4.size ?_
         intro v5 W5 hS5 g5
         have b5 : Below w0.heap.size w0 W5 := b4.grown g5 b4.size (own_ge hS4)
         refine hK4.out _ _ (SH _ b5) (fun _ => ?_)
         refine wpAnyH_ready (rs := [12]) (by kernel_rfl) (by decide) ?_
         refine AllReadyH.cons rfl (fun K5 hK5 => ?_) AllReadyH.nil
         ·go_simp
          refine hK5.out _ _ (SH _ b5) (fun _ => ?_)
          refine ⟨by kernel_rfl, ?_⟩
          go_wp2_with fail
          go_ret
          have oS := Ow.of_own Wt.cells_len hS5 (l := Wt.ins l x) (by rw [Wt.ins, HQ.out]; simp) (by rw [Wt.ins_len]; have := H.out; omega)
          exact ⟨_, rfl, oS.mono bW.size (Nat.le_refl _), bW.trans (b5.mono bW.size)⟩
    ·go_simp
     refine hK0.out _ _ (SH _ (b0'.alloc b0'.size (.cells #[.int .i64 x.irq, .int .i64 x.prio] 107))) (fun _ => ?_)
     obtain ⟨gX, hgX⟩ : ∃ g, g = W0.heap.size := ⟨_, rfl⟩
     have zgX : w0.heap.size ≤ gX := by rw [hgX]; exact b0'.size
     rw [← hgX]
     refine held_gen (F := fun W' => Below w0.heap.size w0 W' ∧ (∀ (j : Nat) (u : Value), (Wt.cells x)[j]? = some u → W'.cell? ⟨gX, j, none⟩ = some u) ∧ W'.heap[gX]? = some (.cells #[.int .i64 x.irq, .int .i64 x.prio] 107 (0, 0)) ∧ gX < W'.heap.size) ⟨b0'.alloc b0'.size (.cells #[.int .i64 x.irq, .int .i64 x.prio] 107), fun j u hu => cell_new W0 _ _ hgX (by simpa [Wt.cells] using hu), by rw [hgX]; exact heap_alloc_new _ _, by simp [hgX]⟩ ?_
     clear hgX
     rintro W1 ⟨b1, hX1, lH1, lX1⟩
     refine wpAnyH_ready (rs := [0]) (by kernel_rfl) (by decide) ?_
     refine AllReadyH.cons rfl (fun K1 hK1 => ?_) AllReadyH.nil
     ·go_simp
      refine hK1.out _ _ (SH _ (b1.alloc b1.size (.cells #[] 107))) (fun _ => ?_)
      obtain ⟨gS, hgS⟩ : ∃ g, g = W1.heap.size := ⟨_, rfl⟩
      have zgS : w0.heap.size ≤ gS := by rw [hgS]; exact b1.size
      have gne : gX ≠ gS := by have := lX1; omega
      rw [← hgS]
      refine held_gen (F := fun W' => Below w0.heap.size w0 W' ∧ W'.ownsRow w0.heap.size 107 2 (.slice (some ⟨gS, 0, none⟩) 0 0) 0 [] ∧ gS < W'.heap.size ∧ (∀ (j : Nat) (u : Value), (Wt.cells x)[j]? = some u → W'.cell? ⟨gX, j, none⟩ = some u) ∧ W'.heap[gX]? = some (.cells #[.int .i64 x.irq, .int .i64 x.prio] 107 (0, 0)) ∧ gX < W'.heap.size) ⟨b1.alloc b1.size (.cells #[] 107), own_empty_at W1 (g := gS) 107 2 hgS b1.size, by simp [hgS], fun j u hu => (World.cell?_alloc_lt _ _ _ (by have := lX1; exact this)).trans (hX1 j u hu), (heap_alloc_old _ _ lX1).trans lH1, by simp; have := lX1; omega⟩ ?_
      clear hgS
      rintro W2 ⟨b2, hS2, lS2, hX2, lH2, lX2⟩
      refine wpAnyH_ready (rs := [4]) (by kernel_rfl) (by decide) ?_
      refine AllReadyH.cons rfl (fun K2 hK2 => ?_) AllReadyH.nil
      ·refine step_app_rd rfl _ _ 26 rfl w0.heap.size 107 i0 _ 2 _ Tryz.underlying26 hi0 hz0 hz1 hz2 rfl (by omega) Wt.cells_len Wt.one (.slice (some ⟨gS, 0, none⟩) 0 0) (0) [] rfl hS2 (A := some ⟨b, off, none⟩) (m := k) (c := c) (l := (l.take k)) rfl (hkrd.below b2 hh) (by unfold maxLen; omega) (by omega) b2.size ?_
       intro v3 W3 hS3 g3
       have b3 : Below w0.heap.size w0 W3 := b2.grown g3 b2.size (own_ge hS2)
       refine hK2.out _ _ (SH _ b3) (fun _ => ?_)
       have hX3 : ∀ (j : Nat) (u : Value), (Wt.cells x)[j]? = some u → W3.cell? ⟨gX, j, none⟩ = some u := fun j u hu => g3.cell (hX2 j u hu) (by simp only [Value.ownBlock, ne_eq, Option.some.injEq]; omega)
       have lX3 : gX < W3.heap.size := by have := g3.size; have := lX2; omega
       have lH3 : W3.heap[gX]? = some (.cells #[.int .i64 x.irq, .int .i64 x.prio] 107 (0, 0)) := (g3.block gX lX2 (by simp only [Value.ownBlock, ne_eq, Option.some.injEq]; omega)).trans lH2
       refine wpAnyH_ready (rs := [7]) (by kernel_rfl) (by decide) ?_
       refine AllReadyH.cons rfl (fun K3 hK3 => ?_) AllReadyH.nil
       ·refine step_app_rd rfl _ _ 26 rfl w0.heap.size 107 i0 _ 2 _ Tryz.underlying26 hi0 hz0 hz1 hz2 rfl (by omega) Wt.cells_len Wt.one v3 (0 + k) ([] ++ (l.take k).flatMap Wt.cells) rfl hS3 (A := some ⟨gX, 0, none⟩) (m := 1) (c := 1) (l := [x]) rfl (rd_one hX3) (by unfold maxLen; omega) (by omega) b3.size ?_
        intro v4 W4 hS4 g4
        have b4 : Below w0.heap.size w0 W4 := b3.grown g4 b3.size (own_ge hS3)
        refine hK3.out _ _ (SH _ b4) (fun _ => ?_)
        refine wpAnyH_ready (rs := [11]) (by kernel_rfl) (by decide) ?_
        refine AllReadyH.cons rfl (fun K4 hK4 => ?_) AllReadyH.nil
        ·refine step_app_rd rfl _ _ 26 rfl w0.heap.size 107 i0 _ 2 _ Tryz.underlying26 hi0 hz0 hz1 hz2 rfl (by omega) Wt.cells_len Wt.one v4 (0 + k + 1) (([] ++ (l.take k).flatMap Wt.cells) ++ [x].flatMap Wt.cells) rfl hS4 (A := B0) (m := n - k) (c := c - k) (l := (l.drop k)) rfl (hdrd.below b4 hh) (by unfold maxLen; omega) (by omega) b4.size ?_
         intro v5 W5 hS5 g5
         have b5 : Below w0.heap.size w0 W5 := b4.grown g5 b4.size (own_ge hS4)
         refine hK4.out _ _ (SH _ b5) (fun _ => ?_)
         refine wpAnyH_ready (rs := [12]) (by kernel_rfl) (by decide) ?_
         refine AllReadyH.cons rfl (fun K5 hK5 => ?_) AllReadyH.nil
         ·go_simp
          refine hK5.out _ _ (SH _ b5) (fun _ => ?_)
          refine ⟨by kernel_rfl, ?_⟩
          go_wp2_with fail
          go_ret
          have oS := Ow.of_own Wt.cells_len hS5 (l := Wt.ins l x) (by rw [Wt.ins, HQ.out]; simp) (by rw [Wt.ins_len]; have := H.out; omega)
          exact ⟨_, rfl, oS.mono bW.size (Nat.le_refl _), bW.trans (b5.mono bW.size)⟩
   ·rw [hq] at c6
    have HJ2 := Lib.hid (show ∀ (j : Nat) (z : Wt), j < k + 1 → l[j]? = some z → z.lt x = true from fun j z hj hz => by
     by_cases hjm : j = k
     ·subst hjm; rw [hy.out] at hz; obtain rfl := Option.some.inj hz; exact hq
     ·exact HJ.out j z (by omega) hz)
    clear hq HJ
    go_wp2_with fail
    go_quiet ((go_at_call 132; refine Calls.quiet_of_same ((c6 _).mono fun _ _ h => ⟨h.1, h.2.symm⟩)))
    go_wp2_with fail
    go_roundw
    case rel => exact ⟨k + 1, by go_num, by omega, below_drewN hb _, HJ2⟩
    case measure => simp [intOf]; omega
  ·have hd : decide ((k : Int) < (n : Int)) = false := decide_eq_false (by omega)
   have HQ := Lib.hid (show Wt.pos x l = k from Wt.pos_eq x l k (by rw [← H.out]; exact hkn) HJ.out (fun z hz => by
    rw [List.getElem?_eq_none (by have := H.out; omega)] at hz; cases hz))
   clear HJ
   go_wp2_with fail
   go_quiet (fail)
   go_wp2_with fail
   have hbn := below_drewN (bW.trans (hb.mono (by omega))) nq
   have hrn := hrd.drewN nq
   have q0n : (wr.drewN nq).cell? ⟨w.heap.size, 0, none⟩ = some (.int .i64 x.irq) := q0
   have q1n : (wr.drewN nq).cell? ⟨w.heap.size, 1, none⟩ = some (.int .i64 x.prio) := q1
   have zn : wr.heap.size = (wr.drewN nq).heap.size := rfl
   rw [zn] at zz
   clear bW hrd q0 q1 hb hd zn
   generalize wr.drewN nq = w0 at hbn hrn q0n q1n zz ⊢
   have bW := hbn; have hrd := hrn; have q0 := q0n; have q1 := q1n
   clear hbn hrn q0n q1n
   replace hh : hi ≤ w0.heap.size := by omega
   have zq : w.heap.size < w0.heap.size := by omega
   have hkc : k ≤ c := by omega
   have hkrd := hrd.take_ hkn
   have hdrd := hrd.dropn hkn
   have SH : ∀ W, Below w0.heap.size w0 W → (fun (W : World) => W.cell? ⟨w.heap.size, 0, none⟩ = some (.int .i64 x.irq) ∧ W.cell? ⟨w.heap.size, 1, none⟩ = some (.int .i64 x.prio)) W := fun W hb => ⟨(hb.cell (p := ⟨w.heap.size, 0, none⟩) zq).trans q0, (hb.cell (p := ⟨w.heap.size, 1, none⟩) zq).trans q1⟩
   refine wp_region_held_drew (S := fun W => W.cell? ⟨w.heap.size, 0, none⟩ = some (.int .i64 x.irq) ∧ W.cell? ⟨w.heap.size, 1, none⟩ = some (.int .i64 x.prio)) (by kernel_rfl) (SH _ (Below.refl w0.heap.size w0).drew) (fun hHeld => ?_)
   refine wpAnyH_take (i := 1) (v := .slice A n c) rfl (by kernel_rfl) (by kernel_rfl) (by kernel_rfl) (fun _ _ _ h => h) (Or.inl ⟨by rfl, by intro w hSw; obtain ⟨y0, y1⟩ := hSw; go_simp⟩) hHeld ?_
   refine wpAnyH_take (i := 2) (v := .int .i64 k) rfl (by kernel_rfl) (by kernel_rfl) (by kernel_rfl) (fun _ _ _ h => h) (Or.inl ⟨by rfl, by intro w hSw; obtain ⟨y0, y1⟩ := hSw; go_simp⟩) hHeld ?_
   refine wpAnyH_take (i := 3) (v := .slice A k c) rfl (by kernel_rfl) (by kernel_rfl) (by kernel_rfl) (fun _ _ _ h => h) (Or.inl ⟨by rfl, by intro w hSw; obtain ⟨y0, y1⟩ := hSw; go_simp⟩) hHeld ?_
   refine wpAnyH_take (i := 5) (v := .agg #[.int .i64 x.irq, .int .i64 x.prio]) rfl (by kernel_rfl) (by kernel_rfl) (by kernel_rfl) (fun _ _ _ h => h) (Or.inl ⟨by rfl, by intro w hSw; obtain ⟨y0, y1⟩ := hSw; go_simp⟩) hHeld ?_
   refine wpAnyH_take (i := 8) (v := .slice A n c) rfl (by kernel_rfl) (by kernel_rfl) (by kernel_rfl) (fun _ _ _ h => h) (Or.inl ⟨by rfl, by intro w hSw; obtain ⟨y0, y1⟩ := hSw; go_simp⟩) hHeld ?_
   refine wpAnyH_take (i := 9) (v := .int .i64 k) rfl (by kernel_rfl) (by kernel_rfl) (by kernel_rfl) (fun _ _ _ h => h) (Or.inl ⟨by rfl, by intro w hSw; obtain ⟨y0, y1⟩ := hSw; go_simp⟩) hHeld ?_
   refine wpAnyH_take (i := 10) (v := .slice (if c = k then A else Option.map (fun z => z.add (k * 2)) A) (n - k) (c - k)) rfl (by kernel_rfl) (by kernel_rfl) (by kernel_rfl) (fun _ _ _ h => h) (Or.inl ⟨by rfl, by intro w hSw; obtain ⟨y0, y1⟩ := hSw; go_simp⟩) hHeld ?_
   clear hHeld
   generalize (if c = k then A else Option.map (fun z => z.add (k * 2)) A) = B0 at hdrd ⊢
   refine held_gen (F := fun W' => Below w0.heap.size w0 W') (Below.refl w0.heap.size w0).drew ?_
   rintro W0 b0'
   refine wpAnyH_ready (rs := [0, 6]) (by kernel_rfl) (by decide) ?_
   refine AllReadyH.cons rfl (fun K0 hK0 => ?_) (AllReadyH.cons rfl (fun K0 hK0 => ?_) AllReadyH.nil)
   ·go_simp
    refine hK0.out _ _ (SH _ (b0'.alloc b0'.size (.cells #[] 107))) (fun _ => ?_)
    obtain ⟨gS, hgS⟩ : ∃ g, g = W0.heap.size := ⟨_, rfl⟩
    have zgS : w0.heap.size ≤ gS := by rw [hgS]; exact b0'.size
    rw [← hgS]
    refine held_gen (F := fun W' => Below w0.heap.size w0 W' ∧ W'.ownsRow w0.heap.size 107 2 (.slice (some ⟨gS, 0, none⟩) 0 0) 0 [] ∧ gS < W'.heap.size) ⟨b0'.alloc b0'.size (.cells #[] 107), own_empty_at W0 (g := gS) 107 2 hgS b0'.size, by simp [hgS]⟩ ?_
    clear hgS
    rintro W1 ⟨b1, hS1, lS1⟩
    refine wpAnyH_ready (rs := [4, 6]) (by kernel_rfl) (by decide) ?_
    refine AllReadyH.cons rfl (fun K1 hK1 => ?_) (AllReadyH.cons rfl (fun K1 hK1 => ?_) AllReadyH.nil)
    ·refine step_app_rd rfl _ _ 26 rfl w0.heap.size 107 i0 _ 2 _ Tryz.underlying26 hi0 hz0 hz1 hz2 rfl (by omega) Wt.cells_len Wt.one (.slice (some ⟨gS, 0, none⟩) 0 0) (0) [] rfl hS1 (A := A) (m := k) (c := c) (l := (l.take k)) rfl (hkrd.below b1 hh) (by unfold maxLen; omega) (by omega) b1.size ?_
     intro v2 W2 hS2 g2
     have b2 : Below w0.heap.size w0 W2 := b1.grown g2 b1.size (own_ge hS1)
     refine hK1.out _ _ (SH _ b2) (fun _ => ?_)
     refine wpAnyH_ready (rs := [6]) (by kernel_rfl) (by decide) ?_
     refine AllReadyH.cons rfl (fun K2 hK2 => ?_) AllReadyH.nil
     ·go_simp
      refine hK2.out _ _ (SH _ (b2.alloc b2.size (.cells #[.int .i64 x.irq, .int .i64 x.prio] 107))) (fun _ => ?_)
      obtain ⟨gX, hgX⟩ : ∃ g, g = W2.heap.size := ⟨_, rfl⟩
      have zgX : w0.heap.size ≤ gX := by rw [hgX]; exact b2.size
      rw [← hgX]
      refine held_gen (F := fun W' => Below w0.heap.size w0 W' ∧ (∀ (j : Nat) (u : Value), (Wt.cells x)[j]? = some u → W'.cell? ⟨gX, j, none⟩ = some u) ∧ W'.heap[gX]? = some (.cells #[.int .i64 x.irq, .int .i64 x.prio] 107 (0, 0)) ∧ gX < W'.heap.size ∧ W'.ownsRow w0.heap.size 107 2 v2 (0 + k) ([] ++ (l.take k).flatMap Wt.cells) ∧ (∀ g, v2.ownBlock = some g → g ≠ gX)) ⟨b2.alloc b2.size (.cells #[.int .i64 x.irq, .int .i64 x.prio] 107), fun j u hu => cell_new W2 _ _ hgX (by simpa [Wt.cells] using hu), by rw [hgX]; exact heap_alloc_new _ _, by simp [hgX], hS2.alloc (.cells #[.int .i64 x.irq, .int .i64 x.prio] 107), fun g hg e => by have := own_lt hS2 g hg; omega⟩ ?_
      clear hgX
      rintro W3 ⟨b3, hX3, lH3, lX3, hS3, lS3⟩
      refine wpAnyH_ready (rs := [7]) (by kernel_rfl) (by decide) ?_
      refine AllReadyH.cons rfl (fun K3 hK3 => ?_) AllReadyH.nil
      ·refine step_app_rd rfl _ _ 26 rfl w0.heap.size 107 i0 _ 2 _ Tryz.underlying26 hi0 hz0 hz1 hz2 rfl (by omega) Wt.cells_len Wt.one v2 (0 + k) ([] ++ (l.take k).flatMap Wt.cells) rfl hS3 (A := some ⟨gX, 0, none⟩) (m := 1) (c := 1) (l := [x]) rfl (rd_one hX3) (by unfold maxLen; omega) (by omega) b3.size ?_
       intro v4 W4 hS4 g4
       have b4 : Below w0.heap.size w0 W4 := b3.grown g4 b3.size (own_ge hS3)
       refine hK3.out _ _ (SH _ b4) (fun _ => ?_)
       refine wpAnyH_ready (rs := [11]) (by kernel_rfl) (by decide) ?_
       refine AllReadyH.cons rfl (fun K4 hK4 => ?_) AllReadyH.nil
       ·refine step_app_rd rfl _ _ 26 rfl w0.heap.size 107 i0 _ 2 _ Tryz.underlying26 hi0 hz0 hz1 hz2 rfl (by omega) Wt.cells_len Wt.one v4 (0 + k + 1) (([] ++ (l.take k).flatMap Wt.cells) ++ [x].flatMap Wt.cells) rfl hS4 (A := B0) (m := n - k) (c := c - k) (l := (l.drop k)) rfl (hdrd.below b4 hh) (by unfold maxLen; omega) (by omega) b4.size ?_
        intro v5 W5 hS5 g5
        have b5 : Below w0.heap.size w0 W5 := b4.grown g5 b4.size (own_ge hS4)
        refine hK4.out _ _ (SH _ b5) (fun _ => ?_)
        refine wpAnyH_ready (rs := [12]) (by kernel_rfl) (by decide) ?_
        refine AllReadyH.cons rfl (fun K5 hK5 => ?_) AllReadyH.nil
        ·go_simp
         refine hK5.out _ _ (SH _ b5) (fun _ => ?_)
         refine ⟨by kernel_rfl, ?_⟩
         go_wp2_with fail
         go_ret
         have oS := Ow.of_own Wt.cells_len hS5 (l := Wt.ins l x) (by rw [Wt.ins, HQ.out]; simp) (by rw [Wt.ins_len]; have := H.out; omega)
         exact ⟨_, rfl, oS.mono bW.size (Nat.le_refl _), bW.trans (b5.mono bW.size)⟩
    ·go_simp
     refine hK1.out _ _ (SH _ (b1.alloc b1.size (.cells #[.int .i64 x.irq, .int .i64 x.prio] 107))) (fun _ => ?_)
     obtain ⟨gX, hgX⟩ : ∃ g, g = W1.heap.size := ⟨_, rfl⟩
     have zgX : w0.heap.size ≤ gX := by rw [hgX]; exact b1.size
     have gne : gX ≠ gS := by have := lS1; omega
     rw [← hgX]
     refine held_gen (F := fun W' => Below w0.heap.size w0 W' ∧ (∀ (j : Nat) (u : Value), (Wt.cells x)[j]? = some u → W'.cell? ⟨gX, j, none⟩ = some u) ∧ W'.heap[gX]? = some (.cells #[.int .i64 x.irq, .int .i64 x.prio] 107 (0, 0)) ∧ gX < W'.heap.size ∧ W'.ownsRow w0.heap.size 107 2 (.slice (some ⟨gS, 0, none⟩) 0 0) 0 [] ∧ gS < W'.heap.size) ⟨b1.alloc b1.size (.cells #[.int .i64 x.irq, .int .i64 x.prio] 107), fun j u hu => cell_new W1 _ _ hgX (by simpa [Wt.cells] using hu), by rw [hgX]; exact heap_alloc_new _ _, by simp [hgX], hS1.alloc (.cells #[.int .i64 x.irq, .int .i64 x.prio] 107), by simp; have := lS1; omega⟩ ?_
     clear hgX
     rintro W2 ⟨b2, hX2, lH2, lX2, hS2, lS2⟩
     refine wpAnyH_ready (rs := [4]) (by kernel_rfl) (by decide) ?_
     refine AllReadyH.cons rfl (fun K2 hK2 => ?_) AllReadyH.nil
     ·refine step_app_rd rfl _ _ 26 rfl w0.heap.size 107 i0 _ 2 _ Tryz.underlying26 hi0 hz0 hz1 hz2 rfl (by omega) Wt.cells_len Wt.one (.slice (some ⟨gS, 0, none⟩) 0 0) (0) [] rfl hS2 (A := A) (m := k) (c := c) (l := (l.take k)) rfl (hkrd.below b2 hh) (by unfold maxLen; omega) (by omega) b2.size ?_
      intro v3 W3 hS3 g3
      have b3 : Below w0.heap.size w0 W3 := b2.grown g3 b2.size (own_ge hS2)
      refine hK2.out _ _ (SH _ b3) (fun _ => ?_)
      have hX3 : ∀ (j : Nat) (u : Value), (Wt.cells x)[j]? = some u → W3.cell? ⟨gX, j, none⟩ = some u := fun j u hu => g3.cell (hX2 j u hu) (by simp only [Value.ownBlock, ne_eq, Option.some.injEq]; omega)
      have lX3 : gX < W3.heap.size := by have := g3.size; have := lX2; omega
      have lH3 : W3.heap[gX]? = some (.cells #[.int .i64 x.irq, .int .i64 x.prio] 107 (0, 0)) := (g3.block gX lX2 (by simp only [Value.ownBlock, ne_eq, Option.some.injEq]; omega)).trans lH2
      refine wpAnyH_ready (rs := [7]) (by kernel_rfl) (by decide) ?_
      refine AllReadyH.cons rfl (fun K3 hK3 => ?_) AllReadyH.nil
      ·refine step_app_rd rfl _ _ 26 rfl w0.heap.size 107 i0 _ 2 _ Tryz.underlying26 hi0 hz0 hz1 hz2 rfl (by omega) Wt.cells_len Wt.one v3 (0 + k) ([] ++ (l.take k).flatMap Wt.cells) rfl hS3 (A := some ⟨gX, 0, none⟩) (m := 1) (c := 1) (l := [x]) rfl (rd_one hX3) (by unfold maxLen; omega) (by omega) b3.size ?_
       intro v4 W4 hS4 g4
       have b4 : Below w0.heap.size w0 W4 := b3.grown g4 b3.size (own_ge hS3)
       refine hK3.out _ _ (SH _ b4) (fun _ => ?_)
       refine wpAnyH_ready (rs := [11]) (by kernel_rfl) (by decide) ?_
       refine AllReadyH.cons rfl (fun K4 hK4 => ?_) AllReadyH.nil
       ·refine step_app_rd rfl _ _ 26 rfl w0.heap.size 107 i0 _ 2 _ Tryz.underlying26 hi0 hz0 hz1 hz2 rfl (by omega) Wt.cells_len Wt.one v4 (0 + k + 1) (([] ++ (l.take k).flatMap Wt.cells) ++ [x].flatMap Wt.cells) rfl hS4 (A := B0) (m := n - k) (c := c - k) (l := (l.drop k)) rfl (hdrd.below b4 hh) (by unfold maxLen; omega) (by omega) b4.size ?_
        intro v5 W5 hS5 g5
        have b5 : Below w0.heap.size w0 W5 := b4.grown g5 b4.size (own_ge hS4)
        refine hK4.out _ _ (SH _ b5) (fun _ => ?_)
        refine wpAnyH_ready (rs := [12]) (by kernel_rfl) (by decide) ?_
        refine AllReadyH.cons rfl (fun K5 hK5 => ?_) AllReadyH.nil
        ·go_simp
         refine hK5.out _ _ (SH _ b5) (fun _ => ?_)
         refine ⟨by kernel_rfl, ?_⟩
         go_wp2_with fail
         go_ret
         have oS := Ow.of_own Wt.cells_len hS5 (l := Wt.ins l x) (by rw [Wt.ins, HQ.out]; simp) (by rw [Wt.ins_len]; have := H.out; omega)
         exact ⟨_, rfl, oS.mono bW.size (Nat.le_refl _), bW.trans (b5.mono bW.size)⟩
   ·go_simp
    refine hK0.out _ _ (SH _ (b0'.alloc b0'.size (.cells #[.int .i64 x.irq, .int .i64 x.prio] 107))) (fun _ => ?_)
    obtain ⟨gX, hgX⟩ : ∃ g, g = W0.heap.size := ⟨_, rfl⟩
    have zgX : w0.heap.size ≤ gX := by rw [hgX]; exact b0'.size
    rw [← hgX]
    refine held_gen (F := fun W' => Below w0.heap.size w0 W' ∧ (∀ (j : Nat) (u : Value), (Wt.cells x)[j]? = some u → W'.cell? ⟨gX, j, none⟩ = some u) ∧ W'.heap[gX]? = some (.cells #[.int .i64 x.irq, .int .i64 x.prio] 107 (0, 0)) ∧ gX < W'.heap.size) ⟨b0'.alloc b0'.size (.cells #[.int .i64 x.irq, .int .i64 x.prio] 107), fun j u hu => cell_new W0 _ _ hgX (by simpa [Wt.cells] using hu), by rw [hgX]; exact heap_alloc_new _ _, by simp [hgX]⟩ ?_
    clear hgX
    rintro W1 ⟨b1, hX1, lH1, lX1⟩
    refine wpAnyH_ready (rs := [0]) (by kernel_rfl) (by decide) ?_
    refine AllReadyH.cons rfl (fun K1 hK1 => ?_) AllReadyH.nil
    ·go_simp
     refine hK1.out _ _ (SH _ (b1.alloc b1.size (.cells #[] 107))) (fun _ => ?_)
     obtain ⟨gS, hgS⟩ : ∃ g, g = W1.heap.size := ⟨_, rfl⟩
     have zgS : w0.heap.size ≤ gS := by rw [hgS]; exact b1.size
     have gne : gX ≠ gS := by have := lX1; omega
     rw [← hgS]
     refine held_gen (F := fun W' => Below w0.heap.size w0 W' ∧ W'.ownsRow w0.heap.size 107 2 (.slice (some ⟨gS, 0, none⟩) 0 0) 0 [] ∧ gS < W'.heap.size ∧ (∀ (j : Nat) (u : Value), (Wt.cells x)[j]? = some u → W'.cell? ⟨gX, j, none⟩ = some u) ∧ W'.heap[gX]? = some (.cells #[.int .i64 x.irq, .int .i64 x.prio] 107 (0, 0)) ∧ gX < W'.heap.size) ⟨b1.alloc b1.size (.cells #[] 107), own_empty_at W1 (g := gS) 107 2 hgS b1.size, by simp [hgS], fun j u hu => (World.cell?_alloc_lt _ _ _ (by have := lX1; exact this)).trans (hX1 j u hu), (heap_alloc_old _ _ lX1).trans lH1, by simp; have := lX1; omega⟩ ?_
     clear hgS
     rintro W2 ⟨b2, hS2, lS2, hX2, lH2, lX2⟩
     refine wpAnyH_ready (rs := [4]) (by kernel_rfl) (by decide) ?_
     refine AllReadyH.cons rfl (fun K2 hK2 => ?_) AllReadyH.nil
     ·refine step_app_rd rfl _ _ 26 rfl w0.heap.size 107 i0 _ 2 _ Tryz.underlying26 hi0 hz0 hz1 hz2 rfl (by omega) Wt.cells_len Wt.one (.slice (some ⟨gS, 0, none⟩) 0 0) (0) [] rfl hS2 (A := A) (m := k) (c := c) (l := (l.take k)) rfl (hkrd.below b2 hh) (by unfold maxLen; omega) (by omega) b2.size ?_
      intro v3 W3 hS3 g3
      have b3 : Below w0.heap.size w0 W3 := b2.grown g3 b2.size (own_ge hS2)
      refine hK2.out _ _ (SH _ b3) (fun _ => ?_)
      have hX3 : ∀ (j : Nat) (u : Value), (Wt.cells x)[j]? = some u → W3.cell? ⟨gX, j, none⟩ = some u := fun j u hu => g3.cell (hX2 j u hu) (by simp only [Value.ownBlock, ne_eq, Option.some.injEq]; omega)
      have lX3 : gX < W3.heap.size := by have := g3.size; have := lX2; omega
      have lH3 : W3.heap[gX]? = some (.cells #[.int .i64 x.irq, .int .i64 x.prio] 107 (0, 0)) := (g3.block gX lX2 (by simp only [Value.ownBlock, ne_eq, Option.some.injEq]; omega)).trans lH2
      refine wpAnyH_ready (rs := [7]) (by kernel_rfl) (by decide) ?_
      refine AllReadyH.cons rfl (fun K3 hK3 => ?_) AllReadyH.nil
      ·refine step_app_rd rfl _ _ 26 rfl w0.heap.size 107 i0 _ 2 _ Tryz.underlying26 hi0 hz0 hz1 hz2 rfl (by omega) Wt.cells_len Wt.one v3 (0 + k) ([] ++ (l.take k).flatMap Wt.cells) rfl hS3 (A := some ⟨gX, 0, none⟩) (m := 1) (c := 1) (l := [x]) rfl (rd_one hX3) (by unfold maxLen; omega) (by omega) b3.size ?_
       intro v4 W4 hS4 g4
       have b4 : Below w0.heap.size w0 W4 := b3.grown g4 b3.size (own_ge hS3)
       refine hK3.out _ _ (SH _ b4) (fun _ => ?_)
       refine wpAnyH_ready (rs := [11]) (by kernel_rfl) (by decide) ?_
       refine AllReadyH.cons rfl (fun K4 hK4 => ?_) AllReadyH.nil
       ·refine step_app_rd rfl _ _ 26 rfl w0.heap.size 107 i0 _ 2 _ Tryz.underlying26 hi0 hz0 hz1 hz2 rfl (by omega) Wt.cells_len Wt.one v4 (0 + k + 1) (([] ++ (l.take k).flatMap Wt.cells) ++ [x].flatMap Wt.cells) rfl hS4 (A := B0) (m := n - k) (c := c - k) (l := (l.drop k)) rfl (hdrd.below b4 hh) (by unfold maxLen; omega) (by omega) b4.size ?_
        intro v5 W5 hS5 g5
        have b5 : Below w0.heap.size w0 W5 := b4.grown g5 b4.size (own_ge hS4)
        refine hK4.out _ _ (SH _ b5) (fun _ => ?_)
        refine wpAnyH_ready (rs := [12]) (by kernel_rfl) (by decide) ?_
        refine AllReadyH.cons rfl (fun K5 hK5 => ?_) AllReadyH.nil
        ·go_simp
         refine hK5.out _ _ (SH _ b5) (fun _ => ?_)
         refine ⟨by kernel_rfl, ?_⟩
         go_wp2_with fail
         go_ret
         have oS := Ow.of_own Wt.cells_len hS5 (l := Wt.ins l x) (by rw [Wt.ins, HQ.out]; simp) (by rw [Wt.ins_len]; have := H.out; omega)
         exact ⟨_, rfl, oS.mono bW.size (Nat.le_refl _), bW.trans (b5.mono bW.size)⟩
set_option maxHeartbeats 8000000 in
theorem implWait_any (v : Value) (l : List Wt) (x : Wt) (w : World) {lo hi : Nat} (h : Rd Wt.cells 2 w lo hi v l) (hh : hi ≤ w.heap.size) (hl : l.length ≤ 1048576) :
  Calls Tryz.prog 127 #[v, .agg #[.int .i64 x.irq, .int .i64 x.prio]] w fun e w' => ∃ v', e = .returned v' ∧ Ow Wt.cells 2 107 w' w.heap.size w'.heap.size v' (Wt.ins l x) ∧ Below w.heap.size w w' := by
 have bW : Below w.heap.size w (w.alloc (.cells #[.int .i64 x.irq, .int .i64 x.prio] 107)) := (Below.refl w.heap.size w).alloc (Nat.le_refl _) _
 have z0 : (w.alloc (.cells #[.int .i64 x.irq, .int .i64 x.prio] 107)).heap.size = w.heap.size + 1 := by simp
 have q0 : (w.alloc (.cells #[.int .i64 x.irq, .int .i64 x.prio] 107)).cell? ⟨w.heap.size, 0, none⟩ = some (.int .i64 x.irq) := by simp
 have q1 : (w.alloc (.cells #[.int .i64 x.irq, .int .i64 x.prio] 107)).cell? ⟨w.heap.size, 1, none⟩ = some (.int .i64 x.prio) := by simp
 have hrd := h.below bW hh
 replace hh : hi ≤ (w.alloc (.cells #[.int .i64 x.irq, .int .i64 x.prio] 107)).heap.size := by omega
 obtain ⟨A, n, c, rfl, H, hc, hm⟩ := h.form
 have hn : n ≤ 1048576 := by rw [H.out]; exact hl
 clear h hl
 obtain ⟨i0, hi0, hz0, hz1, hz2⟩ := info_parts Wt.info
 go_enter Tryz.func127, Tryz.ntmps127
 go_wp2_with fail
 generalize w.alloc _ = wA at *
 go_loopw [5] (fun q wr => ∃ k : Nat, q = .int .i64 k ∧ k ≤ n ∧ Below wA.heap.size wA wr ∧ Hid (∀ (j : Nat) (y : Wt), j < k → l[j]? = some y → y.lt x = true)) (fun q _ => n - (intOf q).toNat)
 case atStart => exact ⟨0, rfl, Nat.zero_le _, Below.refl _ _, Lib.hid (fun j y hj => by omega)⟩
 case round =>
  obtain ⟨k, rfl, hkn, hb, HJ⟩ := hrel
  replace hrd := hrd.below hb hh
  replace q0 := (hb.cell (p := ⟨w.heap.size, 0, none⟩) (by show w.heap.size < _; omega)).trans q0
  replace q1 := (hb.cell (p := ⟨w.heap.size, 1, none⟩) (by show w.heap.size < _; omega)).trans q1
  have zz := hb.size
  have e2 := cell_ext q0; have e3 := cell_ext q1
  by_cases hlt : k < n
  ·have hd : decide ((k : Int) < (n : Int)) = true := decide_eq_true (by omega)
   obtain ⟨b, off, y, rfl, hy, _, hbl, f0, f1⟩ := Wt.get hrd hlt (Below.refl wr.heap.size wr) (by omega)
   have hik : (k : Int) < (n : Int) := by omega
   have e0 := cell_ext f0; have e1 := cell_ext f1
   have hlt2 := urg_neg ⟨y.irq, y.prio⟩ ⟨x.irq, x.prio⟩
   cases hq : Wt.lt ⟨y.irq, y.prio⟩ ⟨x.irq, x.prio⟩
   ·have hd2 : decide (urg ⟨y.irq, y.prio⟩ ⟨x.irq, x.prio⟩ < 0) = false := decide_eq_false (fun h => by rw [hlt2, hq] at h; cases h)
    have HQ := Lib.hid (show Wt.pos x l = k from Wt.pos_eq x l k (by rw [← H.out]; exact hkn) HJ.out (fun z hz => by rw [hy.out] at hz; obtain rfl := Option.some.inj hz; exact hq))
    clear hq hlt2 HJ
    go_wp2_with fail
    refine wp_region_ext_all (by kernel_rfl) (by kernel_rfl) ?_
    repeat (go_big_quiet_step ((go_at_call 104; exact calls_ext (compareUrgency_at _ _ _ _ _))))
    refine wpQuiet_nil ?_
    intro w0 b3
    clear e0 e1 e2 e3 f0 f1
    have zz3 := b3.size
    replace q0 := (b3.cell (p := ⟨w.heap.size, 0, none⟩) (by show w.heap.size < _; omega)).trans q0
    replace q1 := (b3.cell (p := ⟨w.heap.size, 1, none⟩) (by show w.heap.size < _; omega)).trans q1
    replace hrd := hrd.below b3 (by omega)
    replace bW := bW.trans ((hb.trans (b3.mono hb.size)).mono (by omega))
    clear b3 hb
    go_wp2_with fail
    replace hh : hi ≤ w0.heap.size := by omega
    have zq : w.heap.size < w0.heap.size := by omega
    have SH : ∀ W, Below w0.heap.size w0 W → (fun (W : World) => W.cell? ⟨w.heap.size, 0, none⟩ = some (.int .i64 x.irq) ∧ W.cell? ⟨w.heap.size, 1, none⟩ = some (.int .i64 x.prio)) W := fun W hb => ⟨(hb.cell (p := ⟨w.heap.size, 0, none⟩) zq).trans q0, (hb.cell (p := ⟨w.heap.size, 1, none⟩) zq).trans q1⟩
    refine wp_region_held_drew (S := fun W => W.cell? ⟨w.heap.size, 0, none⟩ = some (.int .i64 x.irq) ∧ W.cell? ⟨w.heap.size, 1, none⟩ = some (.int .i64 x.prio)) (by kernel_rfl) (SH _ (Below.refl w0.heap.size w0).drew) (fun hHeld => ?_)
    refine wpAnyH_take (i := 1) (v := .slice (some ⟨b, off, none⟩) n c) rfl (by kernel_rfl) (by kernel_rfl) (by kernel_rfl) (fun _ _ _ h => h) (Or.inl ⟨by rfl, by intro w hSw; obtain ⟨y0, y1⟩ := hSw; go_simp⟩) hHeld ?_
    refine wpAnyH_take (i := 3) (v := .int .i64 k) rfl (by kernel_rfl) (by kernel_rfl) (by kernel_rfl) (fun _ _ _ h => h) (Or.inl ⟨by rfl, by intro w hSw; obtain ⟨y0, y1⟩ := hSw; go_simp⟩) hHeld ?_
    refine wpAnyH_take (i := 4) (v := .agg #[.int .i64 x.irq, .int .i64 x.prio]) rfl (by kernel_rfl) (by kernel_rfl) (by kernel_rfl) (fun _ _ _ h => h) (Or.inl ⟨by rfl, by intro w hSw; obtain ⟨y0, y1⟩ := hSw; go_simp⟩) hHeld ?_
    clear hHeld
    refine held_gen (F := fun W' => Below w0.heap.size w0 W') (Below.refl w0.heap.size w0).drew ?_
    rintro W0 b0'
    refine wpAnyH_ready (rs := [0, 5]) (by kernel_rfl) (by decide) ?_
    refine AllReadyH.cons rfl (fun K0 hK0 => ?_) (AllReadyH.cons rfl (fun K0 hK0 => ?_) AllReadyH.nil)
    ·go_simp
     refine hK0.out _ _ (SH _ (b0'.alloc b0'.size (.cells #[] 107))) (fun _ => ?_)
     obtain ⟨gS, hgS⟩ : ∃ g, g = W0.heap.size := ⟨_, rfl⟩
     have zgS : w0.heap.size ≤ gS := by rw [hgS]; exact b0'.size
     rw [← hgS]
     refine held_gen (F := fun W' => Below w0.heap.size w0 W' ∧ W'.ownsRow w0.heap.size 107 2 (.slice (some ⟨gS, 0, none⟩) 0 0) 0 [] ∧ gS < W'.heap.size) ⟨b0'.alloc b0'.size (.cells #[] 107), own_empty_at W0 (g := gS) 107 2 hgS b0'.size, by simp [hgS]⟩ ?_
     clear hgS
     rintro W1 ⟨b1, hS1, lS1⟩
     refine wpAnyH_ready (rs := [2, 5]) (by kernel_rfl) (by decide) ?_
     refine AllReadyH.cons rfl (fun K1 hK1 => ?_) (AllReadyH.cons rfl (fun K1 hK1 => ?_) AllReadyH.nil)
     ·refine step_app_rd2 rfl _ _ 26 rfl w0.heap.size 107 i0 _ 2 _ Tryz.underlying26 hi0 hz0 hz1 hz2 rfl (by omega) Wt.cells_len Wt.one (.slice (some ⟨gS, 0, none⟩) 0 0) (0) [] rfl hS1 (A := some ⟨b, off, none⟩) (m := n) (c := c) (l := l) rfl (hrd.below b1 hh) (by unfold maxLen; omega) (by omega) b1.size ?_
      intro v2 W2 hS2 g2 e2
      have b2 : Below w0.heap.size w0 W2 := b1.grown g2 b1.size (own_ge hS1)
      refine hK1.out _ _ (SH _ b2) (fun _ => ?_)
      refine wpAnyH_ready (rs := [5]) (by kernel_rfl) (by decide) ?_
      refine AllReadyH.cons rfl (fun K2 hK2 => ?_) AllReadyH.nil
      ·go_simp
       refine hK2.out _ _ (SH _ (b2.alloc b2.size (.cells #[.int .i64 x.irq, .int .i64 x.prio] 107))) (fun _ => ?_)
       obtain ⟨gX, hgX⟩ : ∃ g, g = W2.heap.size := ⟨_, rfl⟩
       have zgX : w0.heap.size ≤ gX := by rw [hgX]; exact b2.size
       rw [← hgX]
       refine held_gen (F := fun W' => Below w0.heap.size w0 W' ∧ (∀ (j : Nat) (u : Value), (Wt.cells x)[j]? = some u → W'.cell? ⟨gX, j, none⟩ = some u) ∧ W'.heap[gX]? = some (.cells #[.int .i64 x.irq, .int .i64 x.prio] 107 (0, 0)) ∧ gX < W'.heap.size ∧ W'.ownsRow w0.heap.size 107 2 v2 (0 + n) ([] ++ l.flatMap Wt.cells) ∧ (∀ g, v2.ownBlock = some g → g ≠ gX)) ⟨b2.alloc b2.size (.cells #[.int .i64 x.irq, .int .i64 x.prio] 107), fun j u hu => cell_new W2 _ _ hgX (by simpa [Wt.cells] using hu), by rw [hgX]; exact heap_alloc_new _ _, by simp [hgX], hS2.alloc (.cells #[.int .i64 x.irq, .int .i64 x.prio] 107), fun g hg e => by have := own_lt hS2 g hg; omega⟩ ?_
       clear hgX
       rintro W3 ⟨b3, hX3, lH3, lX3, hS3, lS3⟩
       refine wpAnyH_ready (rs := [6]) (by kernel_rfl) (by decide) ?_
       refine AllReadyH.cons rfl (fun K3 hK3 => ?_) AllReadyH.nil
       ·go_simp
        refine (Wt.insert_any v2 l k x gX W3 w0 b3 (by have h := hS3; rw [Nat.zero_add, List.nil_append, H.out] at h; exact h) (by rw [← H.out]; exact hkn) (by rw [← H.out]; exact hn) lH3 (fun e => lS3 _ e rfl)).mono ?_
        rintro e_ Wz ⟨vz, rfl, hSz, bz⟩
        refine hK3.out _ _ (SH _ bz) (fun _ => ?_)
        refine wpAnyH_ready (rs := [7]) (by kernel_rfl) (by decide) ?_
        refine AllReadyH.cons rfl (fun K9 hK9 => ?_) AllReadyH.nil
        go_simp
        refine hK9.out _ _ (SH _ bz) (fun _ => ?_)
        refine ⟨by kernel_rfl, ?_⟩
        go_wp2_with fail
        go_ret
        have oS := Ow.of_own Wt.cells_len hSz (l := Wt.ins l x) (by rw [Wt.ins, HQ.out]) (by rw [Wt.ins_len])
        exact ⟨_, rfl, oS.mono bW.size (Nat.le_refl _), bW.trans (bz.mono bW.size)⟩
     ·go_simp
      refine hK1.out _ _ (SH _ (b1.alloc b1.size (.cells #[.int .i64 x.irq, .int .i64 x.prio] 107))) (fun _ => ?_)
      obtain ⟨gX, hgX⟩ : ∃ g, g = W1.heap.size := ⟨_, rfl⟩
      have zgX : w0.heap.size ≤ gX := by rw [hgX]; exact b1.size
      have gne : gX ≠ gS := by have := lS1; omega
      rw [← hgX]
      refine held_gen (F := fun W' => Below w0.heap.size w0 W' ∧ (∀ (j : Nat) (u : Value), (Wt.cells x)[j]? = some u → W'.cell? ⟨gX, j, none⟩ = some u) ∧ W'.heap[gX]? = some (.cells #[.int .i64 x.irq, .int .i64 x.prio] 107 (0, 0)) ∧ gX < W'.heap.size ∧ W'.ownsRow w0.heap.size 107 2 (.slice (some ⟨gS, 0, none⟩) 0 0) 0 [] ∧ gS < W'.heap.size) ⟨b1.alloc b1.size (.cells #[.int .i64 x.irq, .int .i64 x.prio] 107), fun j u hu => cell_new W1 _ _ hgX (by simpa [Wt.cells] using hu), by rw [hgX]; exact heap_alloc_new _ _, by simp [hgX], hS1.alloc (.cells #[.int .i64 x.irq, .int .i64 x.prio] 107), by simp; have := lS1; omega⟩ ?_
      clear hgX
      rintro W2 ⟨b2, hX2, lH2, lX2, hS2, lS2⟩
      refine wpAnyH_ready (rs := [2]) (by kernel_rfl) (by decide) ?_
      refine AllReadyH.cons rfl (fun K2 hK2 => ?_) AllReadyH.nil
      ·refine step_app_rd2 rfl _ _ 26 rfl w0.heap.size 107 i0 _ 2 _ Tryz.underlying26 hi0 hz0 hz1 hz2 rfl (by omega) Wt.cells_len Wt.one (.slice (some ⟨gS, 0, none⟩) 0 0) (0) [] rfl hS2 (A := some ⟨b, off, none⟩) (m := n) (c := c) (l := l) rfl (hrd.below b2 hh) (by unfold maxLen; omega) (by omega) b2.size ?_
       intro v3 W3 hS3 g3 e3
       have b3 : Below w0.heap.size w0 W3 := b2.grown g3 b2.size (own_ge hS2)
       refine hK2.out _ _ (SH _ b3) (fun _ => ?_)
       have hX3 : ∀ (j : Nat) (u : Value), (Wt.cells x)[j]? = some u → W3.cell? ⟨gX, j, none⟩ = some u := fun j u hu => g3.cell (hX2 j u hu) (by simp only [Value.ownBlock, ne_eq, Option.some.injEq]; omega)
       have lX3 : gX < W3.heap.size := by have := g3.size; have := lX2; omega
       have lH3 : W3.heap[gX]? = some (.cells #[.int .i64 x.irq, .int .i64 x.prio] 107 (0, 0)) := (g3.block gX lX2 (by simp only [Value.ownBlock, ne_eq, Option.some.injEq]; omega)).trans lH2
       have lS3 : ∀ g, v3.ownBlock = some g → g ≠ gX := fun g hg e => by
        rcases e3 with h | h
        ·rw [h] at hg; simp only [Value.ownBlock, Option.some.injEq] at hg; omega
        ·rw [h] at hg; simp only [Option.some.injEq] at hg; have := lX2; omega
       refine wpAnyH_ready (rs := [6]) (by kernel_rfl) (by decide) ?_
       refine AllReadyH.cons rfl (fun K3 hK3 => ?_) AllReadyH.nil
       ·go_simp
        refine (Wt.insert_any v3 l k x gX W3 w0 b3 (by have h := hS3; rw [Nat.zero_add, List.nil_append, H.out] at h; exact h) (by rw [← H.out]; exact hkn) (by rw [← H.out]; exact hn) lH3 (fun e => lS3 _ e rfl)).mono ?_
        rintro e_ Wz ⟨vz, rfl, hSz, bz⟩
        refine hK3.out _ _ (SH _ bz) (fun _ => ?_)
        refine wpAnyH_ready (rs := [7]) (by kernel_rfl) (by decide) ?_
        refine AllReadyH.cons rfl (fun K9 hK9 => ?_) AllReadyH.nil
        go_simp
        refine hK9.out _ _ (SH _ bz) (fun _ => ?_)
        refine ⟨by kernel_rfl, ?_⟩
        go_wp2_with fail
        go_ret
        have oS := Ow.of_own Wt.cells_len hSz (l := Wt.ins l x) (by rw [Wt.ins, HQ.out]) (by rw [Wt.ins_len])
        exact ⟨_, rfl, oS.mono bW.size (Nat.le_refl _), bW.trans (bz.mono bW.size)⟩
    ·go_simp
     refine hK0.out _ _ (SH _ (b0'.alloc b0'.size (.cells #[.int .i64 x.irq, .int .i64 x.prio] 107))) (fun _ => ?_)
     obtain ⟨gX, hgX⟩ : ∃ g, g = W0.heap.size := ⟨_, rfl⟩
     have zgX : w0.heap.size ≤ gX := by rw [hgX]; exact b0'.size
     rw [← hgX]
     refine held_gen (F := fun W' => Below w0.heap.size w0 W' ∧ (∀ (j : Nat) (u : Value), (Wt.cells x)[j]? = some u → W'.cell? ⟨gX, j, none⟩ = some u) ∧ W'.heap[gX]? = some (.cells #[.int .i64 x.irq, .int .i64 x.prio] 107 (0, 0)) ∧ gX < W'.heap.size) ⟨b0'.alloc b0'.size (.cells #[.int .i64 x.irq, .int .i64 x.prio] 107), fun j u hu => cell_new W0 _ _ hgX (by simpa [Wt.cells] using hu), by rw [hgX]; exact heap_alloc_new _ _, by simp [hgX]⟩ ?_
     clear hgX
     rintro W1 ⟨b1, hX1, lH1, lX1⟩
     refine wpAnyH_ready (rs := [0]) (by kernel_rfl) (by decide) ?_
     refine AllReadyH.cons rfl (fun K1 hK1 => ?_) AllReadyH.nil
     ·go_simp
      refine hK1.out _ _ (SH _ (b1.alloc b1.size (.cells #[] 107))) (fun _ => ?_)
      obtain ⟨gS, hgS⟩ : ∃ g, g = W1.heap.size := ⟨_, rfl⟩
      have zgS : w0.heap.size ≤ gS := by rw [hgS]; exact b1.size
      have gne : gX ≠ gS := by have := lX1; omega
      rw [← hgS]
      refine held_gen (F := fun W' => Below w0.heap.size w0 W' ∧ W'.ownsRow w0.heap.size 107 2 (.slice (some ⟨gS, 0, none⟩) 0 0) 0 [] ∧ gS < W'.heap.size ∧ (∀ (j : Nat) (u : Value), (Wt.cells x)[j]? = some u → W'.cell? ⟨gX, j, none⟩ = some u) ∧ W'.heap[gX]? = some (.cells #[.int .i64 x.irq, .int .i64 x.prio] 107 (0, 0)) ∧ gX < W'.heap.size) ⟨b1.alloc b1.size (.cells #[] 107), own_empty_at W1 (g := gS) 107 2 hgS b1.size, by simp [hgS], fun j u hu => (World.cell?_alloc_lt _ _ _ (by have := lX1; exact this)).trans (hX1 j u hu), (heap_alloc_old _ _ lX1).trans lH1, by simp; have := lX1; omega⟩ ?_
      clear hgS
      rintro W2 ⟨b2, hS2, lS2, hX2, lH2, lX2⟩
      refine wpAnyH_ready (rs := [2]) (by kernel_rfl) (by decide) ?_
      refine AllReadyH.cons rfl (fun K2 hK2 => ?_) AllReadyH.nil
      ·refine step_app_rd2 rfl _ _ 26 rfl w0.heap.size 107 i0 _ 2 _ Tryz.underlying26 hi0 hz0 hz1 hz2 rfl (by omega) Wt.cells_len Wt.one (.slice (some ⟨gS, 0, none⟩) 0 0) (0) [] rfl hS2 (A := some ⟨b, off, none⟩) (m := n) (c := c) (l := l) rfl (hrd.below b2 hh) (by unfold maxLen; omega) (by omega) b2.size ?_
       intro v3 W3 hS3 g3 e3
       have b3 : Below w0.heap.size w0 W3 := b2.grown g3 b2.size (own_ge hS2)
       refine hK2.out _ _ (SH _ b3) (fun _ => ?_)
       have hX3 : ∀ (j : Nat) (u : Value), (Wt.cells x)[j]? = some u → W3.cell? ⟨gX, j, none⟩ = some u := fun j u hu => g3.cell (hX2 j u hu) (by simp only [Value.ownBlock, ne_eq, Option.some.injEq]; omega)
       have lX3 : gX < W3.heap.size := by have := g3.size; have := lX2; omega
       have lH3 : W3.heap[gX]? = some (.cells #[.int .i64 x.irq, .int .i64 x.prio] 107 (0, 0)) := (g3.block gX lX2 (by simp only [Value.ownBlock, ne_eq, Option.some.injEq]; omega)).trans lH2
       have lS3 : ∀ g, v3.ownBlock = some g → g ≠ gX := fun g hg e => by
        rcases e3 with h | h
        ·rw [h] at hg; simp only [Value.ownBlock, Option.some.injEq] at hg; omega
        ·rw [h] at hg; simp only [Option.some.injEq] at hg; have := lX2; omega
       refine wpAnyH_ready (rs := [6]) (by kernel_rfl) (by decide) ?_
       refine AllReadyH.cons rfl (fun K3 hK3 => ?_) AllReadyH.nil
       ·go_simp
        refine (Wt.insert_any v3 l k x gX W3 w0 b3 (by have h := hS3; rw [Nat.zero_add, List.nil_append, H.out] at h; exact h) (by rw [← H.out]; exact hkn) (by rw [← H.out]; exact hn) lH3 (fun e => lS3 _ e rfl)).mono ?_
        rintro e_ Wz ⟨vz, rfl, hSz, bz⟩
        refine hK3.out _ _ (SH _ bz) (fun _ => ?_)
        refine wpAnyH_ready (rs := [7]) (by kernel_rfl) (by decide) ?_
        refine AllReadyH.cons rfl (fun K9 hK9 => ?_) AllReadyH.nil
        go_simp
        refine hK9.out _ _ (SH _ bz) (fun _ => ?_)
        refine ⟨by kernel_rfl, ?_⟩
        go_wp2_with fail
        go_ret
        have oS := Ow.of_own Wt.cells_len hSz (l := Wt.ins l x) (by rw [Wt.ins, HQ.out]) (by rw [Wt.ins_len])
        exact ⟨_, rfl, oS.mono bW.size (Nat.le_refl _), bW.trans (bz.mono bW.size)⟩
   ·have hd2 : decide (urg ⟨y.irq, y.prio⟩ ⟨x.irq, x.prio⟩ < 0) = true := decide_eq_true (hlt2.2 hq)
    have HJ2 := Lib.hid (show ∀ (j : Nat) (z : Wt), j < k + 1 → l[j]? = some z → z.lt x = true from fun j z hj hz => by
     by_cases hjm : j = k
     ·subst hjm; rw [hy.out] at hz; obtain rfl := Option.some.inj hz; exact hq
     ·exact HJ.out j z (by omega) hz)
    clear hq hlt2 HJ
    go_wp2_with fail
    refine wp_region_ext_all (by kernel_rfl) (by kernel_rfl) ?_
    repeat (go_big_quiet_step ((go_at_call 104; exact calls_ext (compareUrgency_at _ _ _ _ _))))
    refine wpQuiet_nil ?_
    intro w0 b3
    clear e0 e1 e2 e3 f0 f1
    go_wp2_with fail
    go_roundw
    case rel => exact ⟨k + 1, by go_num, by omega, hb.trans (b3.mono hb.size), HJ2⟩
    case measure => simp [intOf]; omega
  ·have hd : decide ((k : Int) < (n : Int)) = false := decide_eq_false (by omega)
   have HQ := Lib.hid (show Wt.pos x l = k from Wt.pos_eq x l k (by rw [← H.out]; exact hkn) HJ.out (fun z hz => by
    rw [List.getElem?_eq_none (by have := H.out; omega)] at hz; cases hz))
   clear HJ
   go_wp2_with fail
   refine wp_region_ext_all (by kernel_rfl) (by kernel_rfl) ?_
   repeat (go_big_quiet_step (fail))
   refine wpQuiet_nil ?_
   intro w0 b3
   clear e2 e3
   have zz3 := b3.size
   replace q0 := (b3.cell (p := ⟨w.heap.size, 0, none⟩) (by show w.heap.size < _; omega)).trans q0
   replace q1 := (b3.cell (p := ⟨w.heap.size, 1, none⟩) (by show w.heap.size < _; omega)).trans q1
   replace hrd := hrd.below b3 (by omega)
   replace bW := bW.trans ((hb.trans (b3.mono hb.size)).mono (by omega))
   clear b3 hb
   go_wp2_with fail
   replace hh : hi ≤ w0.heap.size := by omega
   have zq : w.heap.size < w0.heap.size := by omega
   have SH : ∀ W, Below w0.heap.size w0 W → (fun (W : World) => W.cell? ⟨w.heap.size, 0, none⟩ = some (.int .i64 x.irq) ∧ W.cell? ⟨w.heap.size, 1, none⟩ = some (.int .i64 x.prio)) W := fun W hb => ⟨(hb.cell (p := ⟨w.heap.size, 0, none⟩) zq).trans q0, (hb.cell (p := ⟨w.heap.size, 1, none⟩) zq).trans q1⟩
   refine wp_region_held_drew (S := fun W => W.cell? ⟨w.heap.size, 0, none⟩ = some (.int .i64 x.irq) ∧ W.cell? ⟨w.heap.size, 1, none⟩ = some (.int .i64 x.prio)) (by kernel_rfl) (SH _ (Below.refl w0.heap.size w0).drew) (fun hHeld => ?_)
   refine wpAnyH_take (i := 1) (v := .slice A n c) rfl (by kernel_rfl) (by kernel_rfl) (by kernel_rfl) (fun _ _ _ h => h) (Or.inl ⟨by rfl, by intro w hSw; obtain ⟨y0, y1⟩ := hSw; go_simp⟩) hHeld ?_
   refine wpAnyH_take (i := 3) (v := .int .i64 k) rfl (by kernel_rfl) (by kernel_rfl) (by kernel_rfl) (fun _ _ _ h => h) (Or.inl ⟨by rfl, by intro w hSw; obtain ⟨y0, y1⟩ := hSw; go_simp⟩) hHeld ?_
   refine wpAnyH_take (i := 4) (v := .agg #[.int .i64 x.irq, .int .i64 x.prio]) rfl (by kernel_rfl) (by kernel_rfl) (by kernel_rfl) (fun _ _ _ h => h) (Or.inl ⟨by rfl, by intro w hSw; obtain ⟨y0, y1⟩ := hSw; go_simp⟩) hHeld ?_
   clear hHeld
   refine held_gen (F := fun W' => Below w0.heap.size w0 W') (Below.refl w0.heap.size w0).drew ?_
   rintro W0 b0'
   refine wpAnyH_ready (rs := [0, 5]) (by kernel_rfl) (by decide) ?_
   refine AllReadyH.cons rfl (fun K0 hK0 => ?_) (AllReadyH.cons rfl (fun K0 hK0 => ?_) AllReadyH.nil)
   ·go_simp
    refine hK0.out _ _ (SH _ (b0'.alloc b0'.size (.cells #[] 107))) (fun _ => ?_)
    obtain ⟨gS, hgS⟩ : ∃ g, g = W0.heap.size := ⟨_, rfl⟩
    have zgS : w0.heap.size ≤ gS := by rw [hgS]; exact b0'.size
    rw [← hgS]
    refine held_gen (F := fun W' => Below w0.heap.size w0 W' ∧ W'.ownsRow w0.heap.size 107 2 (.slice (some ⟨gS, 0, none⟩) 0 0) 0 [] ∧ gS < W'.heap.size) ⟨b0'.alloc b0'.size (.cells #[] 107), own_empty_at W0 (g := gS) 107 2 hgS b0'.size, by simp [hgS]⟩ ?_
    clear hgS
    rintro W1 ⟨b1, hS1, lS1⟩
    refine wpAnyH_ready (rs := [2, 5]) (by kernel_rfl) (by decide) ?_
    refine AllReadyH.cons rfl (fun K1 hK1 => ?_) (AllReadyH.cons rfl (fun K1 hK1 => ?_) AllReadyH.nil)
    ·refine step_app_rd2 rfl _ _ 26 rfl w0.heap.size 107 i0 _ 2 _ Tryz.underlying26 hi0 hz0 hz1 hz2 rfl (by omega) Wt.cells_len Wt.one (.slice (some ⟨gS, 0, none⟩) 0 0) (0) [] rfl hS1 (A := A) (m := n) (c := c) (l := l) rfl (hrd.below b1 hh) (by unfold maxLen; omega) (by omega) b1.size ?_
     intro v2 W2 hS2 g2 e2
     have b2 : Below w0.heap.size w0 W2 := b1.grown g2 b1.size (own_ge hS1)
     refine hK1.out _ _ (SH _ b2) (fun _ => ?_)
     refine wpAnyH_ready (rs := [5]) (by kernel_rfl) (by decide) ?_
     refine AllReadyH.cons rfl (fun K2 hK2 => ?_) AllReadyH.nil
     ·go_simp
      refine hK2.out _ _ (SH _ (b2.alloc b2.size (.cells #[.int .i64 x.irq, .int .i64 x.prio] 107))) (fun _ => ?_)
      obtain ⟨gX, hgX⟩ : ∃ g, g = W2.heap.size := ⟨_, rfl⟩
      have zgX : w0.heap.size ≤ gX := by rw [hgX]; exact b2.size
      rw [← hgX]
      refine held_gen (F := fun W' => Below w0.heap.size w0 W' ∧ (∀ (j : Nat) (u : Value), (Wt.cells x)[j]? = some u → W'.cell? ⟨gX, j, none⟩ = some u) ∧ W'.heap[gX]? = some (.cells #[.int .i64 x.irq, .int .i64 x.prio] 107 (0, 0)) ∧ gX < W'.heap.size ∧ W'.ownsRow w0.heap.size 107 2 v2 (0 + n) ([] ++ l.flatMap Wt.cells) ∧ (∀ g, v2.ownBlock = some g → g ≠ gX)) ⟨b2.alloc b2.size (.cells #[.int .i64 x.irq, .int .i64 x.prio] 107), fun j u hu => cell_new W2 _ _ hgX (by simpa [Wt.cells] using hu), by rw [hgX]; exact heap_alloc_new _ _, by simp [hgX], hS2.alloc (.cells #[.int .i64 x.irq, .int .i64 x.prio] 107), fun g hg e => by have := own_lt hS2 g hg; omega⟩ ?_
      clear hgX
      rintro W3 ⟨b3, hX3, lH3, lX3, hS3, lS3⟩
      refine wpAnyH_ready (rs := [6]) (by kernel_rfl) (by decide) ?_
      refine AllReadyH.cons rfl (fun K3 hK3 => ?_) AllReadyH.nil
      ·go_simp
       refine (Wt.insert_any v2 l k x gX W3 w0 b3 (by have h := hS3; rw [Nat.zero_add, List.nil_append, H.out] at h; exact h) (by rw [← H.out]; exact hkn) (by rw [← H.out]; exact hn) lH3 (fun e => lS3 _ e rfl)).mono ?_
       rintro e_ Wz ⟨vz, rfl, hSz, bz⟩
       refine hK3.out _ _ (SH _ bz) (fun _ => ?_)
       refine wpAnyH_ready (rs := [7]) (by kernel_rfl) (by decide) ?_
       refine AllReadyH.cons rfl (fun K9 hK9 => ?_) AllReadyH.nil
       go_simp
       refine hK9.out _ _ (SH _ bz) (fun _ => ?_)
       refine ⟨by kernel_rfl, ?_⟩
       go_wp2_with fail
       go_ret
       have oS := Ow.of_own Wt.cells_len hSz (l := Wt.ins l x) (by rw [Wt.ins, HQ.out]) (by rw [Wt.ins_len])
       exact ⟨_, rfl, oS.mono bW.size (Nat.le_refl _), bW.trans (bz.mono bW.size)⟩
    ·go_simp
     refine hK1.out _ _ (SH _ (b1.alloc b1.size (.cells #[.int .i64 x.irq, .int .i64 x.prio] 107))) (fun _ => ?_)
     obtain ⟨gX, hgX⟩ : ∃ g, g = W1.heap.size := ⟨_, rfl⟩
     have zgX : w0.heap.size ≤ gX := by rw [hgX]; exact b1.size
     have gne : gX ≠ gS := by have := lS1; omega
     rw [← hgX]
     refine held_gen (F := fun W' => Below w0.heap.size w0 W' ∧ (∀ (j : Nat) (u : Value), (Wt.cells x)[j]? = some u → W'.cell? ⟨gX, j, none⟩ = some u) ∧ W'.heap[gX]? = some (.cells #[.int .i64 x.irq, .int .i64 x.prio] 107 (0, 0)) ∧ gX < W'.heap.size ∧ W'.ownsRow w0.heap.size 107 2 (.slice (some ⟨gS, 0, none⟩) 0 0) 0 [] ∧ gS < W'.heap.size) ⟨b1.alloc b1.size (.cells #[.int .i64 x.irq, .int .i64 x.prio] 107), fun j u hu => cell_new W1 _ _ hgX (by simpa [Wt.cells] using hu), by rw [hgX]; exact heap_alloc_new _ _, by simp [hgX], hS1.alloc (.cells #[.int .i64 x.irq, .int .i64 x.prio] 107), by simp; have := lS1; omega⟩ ?_
     clear hgX
     rintro W2 ⟨b2, hX2, lH2, lX2, hS2, lS2⟩
     refine wpAnyH_ready (rs := [2]) (by kernel_rfl) (by decide) ?_
     refine AllReadyH.cons rfl (fun K2 hK2 => ?_) AllReadyH.nil
     ·refine step_app_rd2 rfl _ _ 26 rfl w0.heap.size 107 i0 _ 2 _ Tryz.underlying26 hi0 hz0 hz1 hz2 rfl (by omega) Wt.cells_len Wt.one (.slice (some ⟨gS, 0, none⟩) 0 0) (0) [] rfl hS2 (A := A) (m := n) (c := c) (l := l) rfl (hrd.below b2 hh) (by unfold maxLen; omega) (by omega) b2.size ?_
      intro v3 W3 hS3 g3 e3
      have b3 : Below w0.heap.size w0 W3 := b2.grown g3 b2.size (own_ge hS2)
      refine hK2.out _ _ (SH _ b3) (fun _ => ?_)
      have hX3 : ∀ (j : Nat) (u : Value), (Wt.cells x)[j]? = some u → W3.cell? ⟨gX, j, none⟩ = some u := fun j u hu => g3.cell (hX2 j u hu) (by simp only [Value.ownBlock, ne_eq, Option.some.injEq]; omega)
      have lX3 : gX < W3.heap.size := by have := g3.size; have := lX2; omega
      have lH3 : W3.heap[gX]? = some (.cells #[.int .i64 x.irq, .int .i64 x.prio] 107 (0, 0)) := (g3.block gX lX2 (by simp only [Value.ownBlock, ne_eq, Option.some.injEq]; omega)).trans lH2
      have lS3 : ∀ g, v3.ownBlock = some g → g ≠ gX := fun g hg e => by
       rcases e3 with h | h
       ·rw [h] at hg; simp only [Value.ownBlock, Option.some.injEq] at hg; omega
       ·rw [h] at hg; simp only [Option.some.injEq] at hg; have := lX2; omega
      refine wpAnyH_ready (rs := [6]) (by kernel_rfl) (by decide) ?_
      refine AllReadyH.cons rfl (fun K3 hK3 => ?_) AllReadyH.nil
      ·go_simp
       refine (Wt.insert_any v3 l k x gX W3 w0 b3 (by have h := hS3; rw [Nat.zero_add, List.nil_append, H.out] at h; exact h) (by rw [← H.out]; exact hkn) (by rw [← H.out]; exact hn) lH3 (fun e => lS3 _ e rfl)).mono ?_
       rintro e_ Wz ⟨vz, rfl, hSz, bz⟩
       refine hK3.out _ _ (SH _ bz) (fun _ => ?_)
       refine wpAnyH_ready (rs := [7]) (by kernel_rfl) (by decide) ?_
       refine AllReadyH.cons rfl (fun K9 hK9 => ?_) AllReadyH.nil
       go_simp
       refine hK9.out _ _ (SH _ bz) (fun _ => ?_)
       refine ⟨by kernel_rfl, ?_⟩
       go_wp2_with fail
       go_ret
       have oS := Ow.of_own Wt.cells_len hSz (l := Wt.ins l x) (by rw [Wt.ins, HQ.out]) (by rw [Wt.ins_len])
       exact ⟨_, rfl, oS.mono bW.size (Nat.le_refl _), bW.trans (bz.mono bW.size)⟩
   ·go_simp
    refine hK0.out _ _ (SH _ (b0'.alloc b0'.size (.cells #[.int .i64 x.irq, .int .i64 x.prio] 107))) (fun _ => ?_)
    obtain ⟨gX, hgX⟩ : ∃ g, g = W0.heap.size := ⟨_, rfl⟩
    have zgX : w0.heap.size ≤ gX := by rw [hgX]; exact b0'.size
    rw [← hgX]
    refine held_gen (F := fun W' => Below w0.heap.size w0 W' ∧ (∀ (j : Nat) (u : Value), (Wt.cells x)[j]? = some u → W'.cell? ⟨gX, j, none⟩ = some u) ∧ W'.heap[gX]? = some (.cells #[.int .i64 x.irq, .int .i64 x.prio] 107 (0, 0)) ∧ gX < W'.heap.size) ⟨b0'.alloc b0'.size (.cells #[.int .i64 x.irq, .int .i64 x.prio] 107), fun j u hu => cell_new W0 _ _ hgX (by simpa [Wt.cells] using hu), by rw [hgX]; exact heap_alloc_new _ _, by simp [hgX]⟩ ?_
    clear hgX
    rintro W1 ⟨b1, hX1, lH1, lX1⟩
    refine wpAnyH_ready (rs := [0]) (by kernel_rfl) (by decide) ?_
    refine AllReadyH.cons rfl (fun K1 hK1 => ?_) AllReadyH.nil
    ·go_simp
     refine hK1.out _ _ (SH _ (b1.alloc b1.size (.cells #[] 107))) (fun _ => ?_)
     obtain ⟨gS, hgS⟩ : ∃ g, g = W1.heap.size := ⟨_, rfl⟩
     have zgS : w0.heap.size ≤ gS := by rw [hgS]; exact b1.size
     have gne : gX ≠ gS := by have := lX1; omega
     rw [← hgS]
     refine held_gen (F := fun W' => Below w0.heap.size w0 W' ∧ W'.ownsRow w0.heap.size 107 2 (.slice (some ⟨gS, 0, none⟩) 0 0) 0 [] ∧ gS < W'.heap.size ∧ (∀ (j : Nat) (u : Value), (Wt.cells x)[j]? = some u → W'.cell? ⟨gX, j, none⟩ = some u) ∧ W'.heap[gX]? = some (.cells #[.int .i64 x.irq, .int .i64 x.prio] 107 (0, 0)) ∧ gX < W'.heap.size) ⟨b1.alloc b1.size (.cells #[] 107), own_empty_at W1 (g := gS) 107 2 hgS b1.size, by simp [hgS], fun j u hu => (World.cell?_alloc_lt _ _ _ (by have := lX1; exact this)).trans (hX1 j u hu), (heap_alloc_old _ _ lX1).trans lH1, by simp; have := lX1; omega⟩ ?_
     clear hgS
     rintro W2 ⟨b2, hS2, lS2, hX2, lH2, lX2⟩
     refine wpAnyH_ready (rs := [2]) (by kernel_rfl) (by decide) ?_
     refine AllReadyH.cons rfl (fun K2 hK2 => ?_) AllReadyH.nil
     ·refine step_app_rd2 rfl _ _ 26 rfl w0.heap.size 107 i0 _ 2 _ Tryz.underlying26 hi0 hz0 hz1 hz2 rfl (by omega) Wt.cells_len Wt.one (.slice (some ⟨gS, 0, none⟩) 0 0) (0) [] rfl hS2 (A := A) (m := n) (c := c) (l := l) rfl (hrd.below b2 hh) (by unfold maxLen; omega) (by omega) b2.size ?_
      intro v3 W3 hS3 g3 e3
      have b3 : Below w0.heap.size w0 W3 := b2.grown g3 b2.size (own_ge hS2)
      refine hK2.out _ _ (SH _ b3) (fun _ => ?_)
      have hX3 : ∀ (j : Nat) (u : Value), (Wt.cells x)[j]? = some u → W3.cell? ⟨gX, j, none⟩ = some u := fun j u hu => g3.cell (hX2 j u hu) (by simp only [Value.ownBlock, ne_eq, Option.some.injEq]; omega)
      have lX3 : gX < W3.heap.size := by have := g3.size; have := lX2; omega
      have lH3 : W3.heap[gX]? = some (.cells #[.int .i64 x.irq, .int .i64 x.prio] 107 (0, 0)) := (g3.block gX lX2 (by simp only [Value.ownBlock, ne_eq, Option.some.injEq]; omega)).trans lH2
      have lS3 : ∀ g, v3.ownBlock = some g → g ≠ gX := fun g hg e => by
       rcases e3 with h | h
       ·rw [h] at hg; simp only [Value.ownBlock, Option.some.injEq] at hg; omega
       ·rw [h] at hg; simp only [Option.some.injEq] at hg; have := lX2; omega
      refine wpAnyH_ready (rs := [6]) (by kernel_rfl) (by decide) ?_
      refine AllReadyH.cons rfl (fun K3 hK3 => ?_) AllReadyH.nil
      ·go_simp
       refine (Wt.insert_any v3 l k x gX W3 w0 b3 (by have h := hS3; rw [Nat.zero_add, List.nil_append, H.out] at h; exact h) (by rw [← H.out]; exact hkn) (by rw [← H.out]; exact hn) lH3 (fun e => lS3 _ e rfl)).mono ?_
       rintro e_ Wz ⟨vz, rfl, hSz, bz⟩
       refine hK3.out _ _ (SH _ bz) (fun _ => ?_)
       refine wpAnyH_ready (rs := [7]) (by kernel_rfl) (by decide) ?_
       refine AllReadyH.cons rfl (fun K9 hK9 => ?_) AllReadyH.nil
       go_simp
       refine hK9.out _ _ (SH _ bz) (fun _ => ?_)
       refine ⟨by kernel_rfl, ?_⟩
       go_wp2_with fail
       go_ret
       have oS := Ow.of_own Wt.cells_len hSz (l := Wt.ins l x) (by rw [Wt.ins, HQ.out]) (by rw [Wt.ins_len])
       exact ⟨_, rfl, oS.mono bW.size (Nat.le_refl _), bW.trans (bz.mono bW.size)⟩

end Go.Proofs.YtndfmkbpdoohfaaGreat

/- Settling a queue, in the program and in the reference. Condition: the parts are valid. -/
namespace Go.Proofs.YtndfmkbpdoohfaaGreat
open Go.RowKit Go.ChangeShapes Go.WideShapes Go.Deep

/-- the result's box, the box of 'out', and the two rows that it names -/
structure QI (base : Nat) (W : World) (gR gO : Nat) (vs vw : Value) (ls : List Sl) (lw : List Wt) : Prop where
 res : Box W gR 28 [.slice none 0 0, .slice none 0 0]
 out : Box W gO 28 [vs, vw]
 os : Ow Sl.cells 3 93 W base W.heap.size vs ls
 ow : Ow Wt.cells 2 107 W base W.heap.size vw lw
 ne : gR ≠ gO
theorem QI.below {base gR gO : Nat} {W W' : World} {vs vw : Value} {ls : List Sl} {lw : List Wt} (h : QI base W gR gO vs vw ls lw) (hb : Below W.heap.size W W') : QI base W' gR gO vs vw ls lw :=
 ⟨h.res.below hb h.res.lt, h.out.below hb h.out.lt, (h.os.below hb (Nat.le_refl _)).mono (Nat.le_refl _) hb.size, (h.ow.below hb (Nat.le_refl _)).mono (Nat.le_refl _) hb.size, h.ne⟩

set_option maxHeartbeats 8000000 in
theorem specSettle_any (vs vw : Value) (ls : List Sl) (lw : List Wt) (w : World) {lo hi lo2 hi2 : Nat} (h : Rd Sl.cells 3 w lo hi vs ls) (h2 : Rd Wt.cells 2 w lo2 hi2 vw lw) (hh : hi ≤ w.heap.size) (hh2 : hi2 ≤ w.heap.size) (hp : Qu.parts ls lw = true) :
  Calls Tryz.prog 124 #[.agg #[vs, vw]] w fun e w' => ∃ v1 v2, e = .returned (.agg #[v1, v2]) ∧ Ow Sl.cells 3 93 w' w.heap.size w'.heap.size v1 (Qu.st ls lw).1 ∧ Ow Wt.cells 2 107 w' w.heap.size w'.heap.size v2 (Qu.st ls lw).2 ∧ Below w.heap.size w w' := by
 have b0 : Below w.heap.size w ((w.alloc (.cells #[vs, vw] 28)).alloc (.cells #[.slice none 0 0, .slice none 0 0] 28)) := ((Below.refl w.heap.size w).alloc (Nat.le_refl _) _).alloc (by simp) _
 have z0 : ((w.alloc (.cells #[vs, vw] 28)).alloc (.cells #[.slice none 0 0, .slice none 0 0] 28)).heap.size = w.heap.size + 2 := by simp
 have q0 : ((w.alloc (.cells #[vs, vw] 28)).alloc (.cells #[.slice none 0 0, .slice none 0 0] 28)).cell? ⟨w.heap.size, 0, none⟩ = some vs := by simp
 have q1 : ((w.alloc (.cells #[vs, vw] 28)).alloc (.cells #[.slice none 0 0, .slice none 0 0] 28)).cell? ⟨w.heap.size, 1, none⟩ = some vw := by simp
 have bR := Box.new (g := w.heap.size + 1) (w.alloc (.cells #[vs, vw] 28)) #[.slice none 0 0, .slice none 0 0] 28 (by simp)
 have hs := h.below b0 hh
 have hw := h2.below b0 hh2
 have hv := h.form
 have hv2 := h2.form
 clear h h2
 generalize hwA : (w.alloc (.cells #[vs, vw] 28)).alloc (.cells #[.slice none 0 0, .slice none 0 0] 28) = wA at *
 obtain ⟨A0, n0, d0, rfl, H0, hd0, hm0⟩ := hv
 obtain ⟨A, n, c, rfl, H, hc, hm⟩ := hv2
 have hl1 := Sl.good_len (Qu.parts_get hp).1
 have hl2 := Qu.parts_len hp
 have c1 := specOwn_any _ _ ls lw _ hs hw (by omega) (by omega) (by omega) (by omega)
 have HP := Lib.hid hp
 clear hp hl1 hl2
 go_enter Tryz.func124, Tryz.ntmps124
 go_wp2_with fail
 clear hwA
 refine c1.mono ?_; rintro q_ w1 ⟨v1, v2, rfl, o1, o2, b1⟩
 replace bR := bR.below b1 (by omega)
 have zz1 := b1.size
 replace b0 := b0.trans (b1.mono (by omega))
 clear b1 hs hw q0 q1
 obtain ⟨A5, n5, d5, rfl, _, _, _⟩ := o1.rd.form
 obtain ⟨A6, n6, d6, rfl, _, _, _⟩ := o2.rd.form
 go_wp2_with fail
 have b2 := (Below.refl w1.heap.size w1).alloc (Nat.le_refl _) (.cells #[.slice A5 n5 d5, .slice A6 n6 d6] 28)
 have hQ : QI w.heap.size (w1.alloc (.cells #[.slice A5 n5 d5, .slice A6 n6 d6] 28)) (w.heap.size + 1) w1.heap.size (.slice A5 n5 d5) (.slice A6 n6 d6) ls lw :=
  ⟨bR.below b2 bR.lt, Box.new w1 _ _ rfl, (o1.below b2 (Nat.le_refl _)).mono (by omega) b2.size, (o2.below b2 (Nat.le_refl _)).mono (by omega) b2.size, by omega⟩
 replace b0 := b0.trans (b2.mono (by omega))
 clear b2 o1 o2 bR
 generalize w1.alloc _ = w2 at *
 generalize w1.heap.size = gO at *
 go_loopg [6] (Qu.meas ls) (fun gk v6 wr => ∃ (ls' : List Sl) (lw' : List Wt) (A0 A1 : Option Addr) (n0 d0 n1 d1 : Nat), Hid (Qu.parts ls' lw' = true) ∧ Hid (Qu.st ls' lw' = Qu.st ls lw) ∧ Hid (Qu.meas ls' ≤ gk) ∧ Below w.heap.size w wr ∧ QI w.heap.size wr (w.heap.size + 1) gO (.slice A0 n0 d0) (.slice A1 n1 d1) ls' lw')
 case atStart => exact ⟨ls, lw, _, _, _, _, _, _, HP, Lib.hid rfl, Lib.hid (Nat.le_refl _), b0, hQ⟩
 case round =>
  clear b0 hQ HP
  obtain ⟨ls', lw', A0, A1, n0, d0, n1, d1, HP, HS, HM, hB, hQ⟩ := hrel
  have cz := l9Settled_any _ _ ls' lw' wr hQ.os.rd hQ.ow.rd (Nat.le_refl _) (Nat.le_refl _)
  have x0 := hQ.out.c0
  have x1 := hQ.out.c1
  cases hq : Qu.settled ls' lw'
  ·rw [hq] at cz
   go_wp2_with fail
   refine cz.mono ?_; rintro q_ w3 ⟨rfl, b3⟩
   replace hQ := hQ.below b3
   replace hB := hB.trans (b3.mono hB.size)
   clear b3 x0 x1 cz
   have x0 := hQ.out.c0
   have x1 := hQ.out.c1
   obtain ⟨t, rest, hlw, hcase⟩ := Qu.unsettled hq
   have HS2 := Lib.hid ((Qu.st_step HP.out hq).symm.trans HS.out)
   have HP2 := Lib.hid (Qu.step_parts HP.out hq)
   obtain ⟨m, rfl⟩ : ∃ m, gk = m + 1 := ⟨gk - 1, by have := Qu.step_meas HP.out hq; have := HM.out; omega⟩
   have HM2 := Lib.hid (show Qu.meas (Qu.step ls' lw').1 ≤ m by have := Qu.step_meas HP.out hq; have := HM.out; omega)
   have HL := Lib.hid (show ls'.length = 4 ∧ lw'.length ≤ 8 from ⟨Sl.good_len (Qu.parts_get HP.out).1, Qu.parts_len HP.out⟩)
   subst hlw
   have HC := Lib.hid hcase
   clear HM HS hcase hq
   have HN := Lib.hid (hQ.ow.rd.n_eq)
   have hn1 : 0 < n1 := by have := HN.out.1; simp at this; omega
   have hn1d : n1 ≤ d1 := HN.out.2.1
   have hn19 : n1 ≤ 8 := by have := HN.out.1; have := HL.out.2; omega
   obtain ⟨bw, off, t', rfl, ht', _, hbw, f0, f1⟩ := Wt.get hQ.ow.rd hn1 (Below.refl w3.heap.size w3) (Nat.le_refl _)
   obtain rfl : t = t' := Option.some.inj ht'.out
   simp only [Nat.zero_mul, Nat.add_zero] at f0 f1
   have hdr := hQ.ow.rd.dropn (k := 1) (by omega)
   rw [dropA_some, Nat.one_mul, List.drop_succ_cons, List.drop_zero] at hdr
   have zO := hQ.out.lt
   go_upto_region 4 with fail
   have b4 := (Below.refl w3.heap.size w3).alloc (Nat.le_refl _) (.cells #[.int .i64 t.irq, .int .i64 t.prio] 107)
   have bT := Box.new w3 #[.int .i64 t.irq, .int .i64 t.prio] 107 rfl
   replace hQ := hQ.below b4
   replace hdr := hdr.below b4 (Nat.le_refl _)
   replace hB := hB.trans (b4.mono hB.size)
   have zw3 := b4.size
   clear b4 x0 x1 f0 f1 ht'
   generalize w3.alloc _ = w4 at *
   generalize w3.heap.size = gT at *
   have x0 := hQ.out.c0
   have x1 := hQ.out.c1
   have zO := hQ.out.lt
   have e4 := own_empty w4 (base := w4.heap.size) 107 2 (Nat.le_refl _)
   have b5 := (Below.refl w4.heap.size w4).alloc (Nat.le_refl _) (.cells #[] 107)
   go_upto_region 5 with (at_builtin; (refine Wt.app_rd rfl _ _ rfl w4.heap.size (.slice (some ⟨w4.heap.size, 0, none⟩) 0 0) 0 [] rfl e4 rfl (hdr.below b5 (by omega)) (by omega) (by simp) ?_); (intro v5 w5 hv5 g5))
   have b6 : Below w4.heap.size w4 w5 := b5.grown g5 (by simp) (own_ge e4)
   have oR := Ow.of_own Wt.cells_len hv5 (l := rest) (by simp) (by have := HN.out.1; simp at this; omega)
   replace hQ := hQ.below b6
   replace bT := bT.below b6 bT.lt
   replace hB := hB.trans (b6.mono hB.size)
   have zw4 := b6.size
   clear b5 b6 e4 x0 x1 hv5 g5 hdr
   obtain ⟨A9, n9, d9, rfl, _, _, _⟩ := oR.rd.form
   have x0 := hQ.out.c0
   have x1 := hQ.out.c1
   have y0 := bT.c0
   have y1 := bT.c1
   replace zO := hQ.out.lt
   generalize (if d1 = 1 then (some ⟨bw, off, none⟩ : Option Addr) else some ⟨bw, off + 2, none⟩) = B1
   have hgO : w.heap.size ≤ gO := by omega
   have c5 := specFree_b _ ls' w5 hQ.os.rd (Nat.le_refl _)
   rcases HC.out with ⟨k, s, hk, hkl, hsk, h0⟩ | ⟨hf, k, s, hk, hkl, hsk, h1, hlt⟩
   ·have HK := Lib.hid hk
    have hkd : decide ((k : Int) < 0) = false := by simp
    rw [hk] at c5
    clear hk hsk h0 HC
    go_wp2_with fail
    refine c5.mono ?_; rintro q_ w6 ⟨rfl, b6⟩
    replace hQ := hQ.below b6
    replace bT := bT.below b6 bT.lt
    replace oR := (oR.below b6 (by omega))
    have zz6 := b6.size
    replace hB := hB.trans (b6.mono hB.size)
    clear b6 x0 x1 y0 y1 c5
    have x0 := hQ.out.c0
    have x1 := hQ.out.c1
    have y0 := bT.c0
    have y1 := bT.c1
    replace zO := hQ.out.lt
    go_wp2_with fail
    refine (specWith_any _ ls' k ⟨1, t.irq, t.prio⟩ w6 hQ.os.rd (Nat.le_refl _) hkl (by have := HL.out.1; omega)).mono ?_; rintro q_ w9 ⟨v9, rfl, o9, b9⟩
    replace hQ := hQ.below b9
    replace oR := oR.below b9 (by omega)
    have zz9 := b9.size
    replace hB := hB.trans (b9.mono hB.size)
    clear b9 x0 x1 y0 y1
    obtain ⟨A8, n8, d8, rfl, _, _, _⟩ := o9.rd.form
    have oz := hQ.out.frozen
    have x0 := hQ.out.c0
    have x1 := hQ.out.c1
    replace zO := hQ.out.lt
    go_wp2_with fail
    go_roundg m
    case rel =>
     generalize hwz : World.setCell (World.setCell _ _ _) _ _ = wz
     obtain rfl : wz = setL w9 gO 0 [.slice A8 n8 d8, .slice A9 n9 d9] := hwz.symm
     clear hwz
     have sz : (setL w9 gO 0 [.slice A8 n8 d8, .slice A9 n9 d9]).heap.size = w9.heap.size := setL_size _ _ _ _
     have zB := hB.size
     have hE := Qu.step_free (ls := ls') (t := t) (rest := rest) HK.out
     rw [hE] at HS2 HP2 HM2
     refine ⟨_, _, _, _, _, _, _, _, HP2, HS2, HM2, setL_below hB _ gO 0 (by omega), ⟨hQ.res.other hQ.ne 0 _, hQ.out.setAll _ rfl, ?_, ?_, hQ.ne⟩⟩
     ·exact (o9.box hQ.out (by decide) 0 _).mono (by omega) (by omega)
     ·exact (oR.box hQ.out (by decide) 0 _).mono (by omega) (by omega)
    case measure => exact Nat.lt_succ_self _
   ·have HK := Lib.hid hk
    have HF := Lib.hid hf
    have HSK := Lib.hid hsk
    have hkd : decide ((k : Int) < 0) = false := by simp
    have c7 := fun W => l8Best_any (.slice A0 n0 d0) ls' false W (lo := w.heap.size) (hi := W.heap.size)
    have hN0 := hQ.os.rd.n_eq
    have hkn : k < n0 := by omega
    have hki : (k : Int) < (n0 : Int) := by omega
    clear hN0
    rw [hf] at c5
    rw [show Sl.best false ls' ls'.length = k from hk] at c7
    clear hk hf hsk h1 hlt HC
    go_wp2_with fail
    refine c5.mono ?_; rintro q_ w6 ⟨rfl, b6⟩
    replace hQ := hQ.below b6
    replace bT := bT.below b6 bT.lt
    replace oR := (oR.below b6 (by omega))
    have zz6 := b6.size
    replace hB := hB.trans (b6.mono hB.size)
    clear b6 x0 x1 y0 y1 c5
    have x0 := hQ.out.c0
    have x1 := hQ.out.c1
    have y0 := bT.c0
    have y1 := bT.c1
    replace zO := hQ.out.lt
    go_wp2_with fail
    refine (c7 w6 hQ.os.rd (Nat.le_refl _)).mono ?_; rintro q_ w7 ⟨rfl, b7⟩
    replace hQ := hQ.below b7
    replace bT := bT.below b7 bT.lt
    replace oR := (oR.below b7 (by omega))
    have zz7 := b7.size
    replace hB := hB.trans (b7.mono hB.size)
    clear b7 x0 x1 y0 y1 c7
    have x0 := hQ.out.c0
    have x1 := hQ.out.c1
    have y0 := bT.c0
    have y1 := bT.c1
    replace zO := hQ.out.lt
    obtain ⟨bs, os, s', rfl, hs', _, hbs, f0, f1, f2⟩ := Sl.get hQ.os.rd hkn (Below.refl w7.heap.size w7) (Nat.le_refl _)
    obtain rfl : s = s' := Option.some.inj (HSK.out.symm.trans hs'.out)
    clear hs'
    go_upto_region 8 with fail
    go_cut [5] (fun s5 wx => ∃ (A7 : Option Addr) (n7 d7 : Nat), s5 = .slice A7 n7 d7 ∧ Below w7.heap.size w7 wx ∧ Ow Wt.cells 2 107 wx w7.heap.size wx.heap.size (.slice A7 n7 d7) (Wt.ins rest ⟨s.irq, s.prio⟩))
    case first =>
     have e0 := cell_ext x0; have e1 := cell_ext f1; have e2 := cell_ext f2
     refine wp_region_ext1 14 (.slice A9 n9 d9) (by omega) (by kernel_rfl) (by kernel_rfl) (by kernel_rfl) (by kernel_rfl) (fun _ _ _ h => h) (Or.inl ⟨rfl, by intro w; go_simp⟩) ?_
     simp only [Nat.reduceSub, List.take_succ_cons, List.take_zero, List.drop_succ_cons, List.drop_zero]
     repeat (quiet_step (fail))
     refine wpQuiet_nil ?_
     intro w8 b8
     clear e0 e1 e2
     have zz8 := b8.size
     go_wp2_with fail
     refine (specWait_any _ rest ⟨s.irq, s.prio⟩ w8 (oR.below b8 (by omega)).rd (by omega) (by have := HL.out.2; simp at this; omega)).mono ?_; rintro q_ w9 ⟨v9, rfl, o9, b9⟩
     obtain ⟨A7, n7, d7, rfl, _, _, _⟩ := o9.rd.form
     go_wp2_with fail
     go_meet
     exact ⟨_, _, _, rfl, b8.trans (b9.mono b8.size), o9.mono b8.size (Nat.le_refl _)⟩
    case rest =>
     obtain ⟨A7, n7, d7, rfl, b8, o7⟩ := hcut
     replace hQ := hQ.below b8
     replace bT := bT.below b8 bT.lt
     have zz8 := b8.size
     replace hB := hB.trans (b8.mono hB.size)
     clear b8 x0 x1 y0 y1 f0 f1 f2
     have x0 := hQ.out.c0
     have x1 := hQ.out.c1
     have y0 := bT.c0
     have y1 := bT.c1
     replace zO := hQ.out.lt
     go_wp2_with fail
     refine (specWith_any _ ls' k ⟨1, t.irq, t.prio⟩ wc hQ.os.rd (Nat.le_refl _) hkl (by have := HL.out.1; omega)).mono ?_; rintro q_ w9 ⟨v9, rfl, o9, b9⟩
     replace hQ := hQ.below b9
     replace o7 := o7.below b9 (by omega)
     have zz9 := b9.size
     replace hB := hB.trans (b9.mono hB.size)
     clear b9 x0 x1 y0 y1
     obtain ⟨A8, n8, d8, rfl, _, _, _⟩ := o9.rd.form
     have oz := hQ.out.frozen
     have x0 := hQ.out.c0
     have x1 := hQ.out.c1
     replace zO := hQ.out.lt
     go_wp2_with fail
     go_roundg m
     case rel =>
      generalize hwz : World.setCell (World.setCell _ _ _) _ _ = wz
      obtain rfl : wz = setL w9 gO 0 [.slice A8 n8 d8, .slice A7 n7 d7] := hwz.symm
      clear hwz
      have sz : (setL w9 gO 0 [.slice A8 n8 d8, .slice A7 n7 d7]).heap.size = w9.heap.size := setL_size _ _ _ _
      have zB := hB.size
      have hE := Qu.step_full (ls := ls') (t := t) (rest := rest) HF.out HK.out HSK.out
      rw [hE] at HS2 HP2 HM2
      refine ⟨_, _, _, _, _, _, _, _, HP2, HS2, HM2, setL_below hB _ gO 0 (by omega), ⟨hQ.res.other hQ.ne 0 _, hQ.out.setAll _ rfl, ?_, ?_, hQ.ne⟩⟩
      ·exact (o9.box hQ.out (by decide) 0 _).mono (by omega) (by omega)
      ·exact (o7.box hQ.out (by decide) 0 _).mono (by omega) (by omega)
     case measure => exact Nat.lt_succ_self _
  ·have HF := Lib.hid ((HS.out).symm.trans (Qu.st_done hq))
   rw [hq] at cz
   clear hq
   go_wp2_with fail
   refine cz.mono ?_; rintro q_ w3 ⟨rfl, b3⟩
   replace hQ := hQ.below b3
   replace hB := hB.trans (b3.mono hB.size)
   clear b3 x0 x1 cz
   have x0 := hQ.out.c0
   have x1 := hQ.out.c1
   have r0 := hQ.res.c0
   have r1 := hQ.res.c1
   have rz := hQ.res.frozen
   have zO := hQ.out.lt
   have zR := hQ.res.lt
   go_wp2_with fail
   generalize hwz : World.setCell (World.setCell _ _ _) _ _ = wz
   obtain rfl : wz = setL w3 (w.heap.size + 1) 0 [.slice A0 n0 d0, .slice A1 n1 d1] := hwz.symm
   have bRz := hQ.res.setAll [.slice A0 n0 d0, .slice A1 n1 d1] rfl
   have u0 := bRz.c0
   have u1 := bRz.c1
   have oS := hQ.os.box hQ.res (by decide) 0 [.slice A0 n0 d0, .slice A1 n1 d1]
   have oW := hQ.ow.box hQ.res (by decide) 0 [.slice A0 n0 d0, .slice A1 n1 d1]
   have hbz := setL_below hB [.slice A0 n0 d0, .slice A1 n1 d1] (w.heap.size + 1) 0 (by omega)
   have sz : (setL w3 (w.heap.size + 1) 0 [.slice A0 n0 d0, .slice A1 n1 d1]).heap.size = w3.heap.size := setL_size _ _ _ _
   clear hwz hQ hB bRz x0 x1 r0 r1 rz
   generalize setL w3 (w.heap.size + 1) 0 [.slice A0 n0 d0, .slice A1 n1 d1] = wz at *
   refine bodyPost_ret (by simp only [results, Tryz.results124]; simp [go_sem, u0, u1]; rfl) rfl ?_
   exact ⟨_, _, rfl, by rw [HF.out]; exact oS.mono (Nat.le_refl _) (by omega), by rw [HF.out]; exact oW.mono (Nat.le_refl _) (by omega), hbz⟩
set_option maxHeartbeats 8000000 in
theorem implSettle_any (vs vw : Value) (ls : List Sl) (lw : List Wt) (w : World) {lo hi lo2 hi2 : Nat} (h : Rd Sl.cells 3 w lo hi vs ls) (h2 : Rd Wt.cells 2 w lo2 hi2 vw lw) (hh : hi ≤ w.heap.size) (hh2 : hi2 ≤ w.heap.size) (hp : Qu.parts ls lw = true) :
  Calls Tryz.prog 122 #[.agg #[vs, vw]] w fun e w' => ∃ v1 v2, e = .returned (.agg #[v1, v2]) ∧ Ow Sl.cells 3 93 w' w.heap.size w'.heap.size v1 (Qu.st ls lw).1 ∧ Ow Wt.cells 2 107 w' w.heap.size w'.heap.size v2 (Qu.st ls lw).2 ∧ Below w.heap.size w w' := by
 have b0 : Below w.heap.size w ((w.alloc (.cells #[vs, vw] 28)).alloc (.cells #[.slice none 0 0, .slice none 0 0] 28)) := ((Below.refl w.heap.size w).alloc (Nat.le_refl _) _).alloc (by simp) _
 have z0 : ((w.alloc (.cells #[vs, vw] 28)).alloc (.cells #[.slice none 0 0, .slice none 0 0] 28)).heap.size = w.heap.size + 2 := by simp
 have q0 : ((w.alloc (.cells #[vs, vw] 28)).alloc (.cells #[.slice none 0 0, .slice none 0 0] 28)).cell? ⟨w.heap.size, 0, none⟩ = some vs := by simp
 have q1 : ((w.alloc (.cells #[vs, vw] 28)).alloc (.cells #[.slice none 0 0, .slice none 0 0] 28)).cell? ⟨w.heap.size, 1, none⟩ = some vw := by simp
 have bR := Box.new (g := w.heap.size + 1) (w.alloc (.cells #[vs, vw] 28)) #[.slice none 0 0, .slice none 0 0] 28 (by simp)
 have hs := h.below b0 hh
 have hw := h2.below b0 hh2
 have hv := h.form
 have hv2 := h2.form
 clear h h2
 generalize hwA : (w.alloc (.cells #[vs, vw] 28)).alloc (.cells #[.slice none 0 0, .slice none 0 0] 28) = wA at *
 obtain ⟨A0, n0, d0, rfl, H0, hd0, hm0⟩ := hv
 obtain ⟨A, n, c, rfl, H, hc, hm⟩ := hv2
 have hl1 := Sl.good_len (Qu.parts_get hp).1
 have hl2 := Qu.parts_len hp
 have c1 := implOwn_any _ _ ls lw _ hs hw (by omega) (by omega) (by omega) (by omega)
 have HP := Lib.hid hp
 clear hp hl1 hl2
 go_enter Tryz.func122, Tryz.ntmps122
 go_wp2_with fail
 clear hwA
 refine c1.mono ?_; rintro q_ w1 ⟨v1, v2, rfl, o1, o2, b1⟩
 replace bR := bR.below b1 (by omega)
 have zz1 := b1.size
 replace b0 := b0.trans (b1.mono (by omega))
 clear b1 hs hw q0 q1
 obtain ⟨A5, n5, d5, rfl, _, _, _⟩ := o1.rd.form
 obtain ⟨A6, n6, d6, rfl, _, _, _⟩ := o2.rd.form
 go_wp2_with fail
 have b2 := (Below.refl w1.heap.size w1).alloc (Nat.le_refl _) (.cells #[.slice A5 n5 d5, .slice A6 n6 d6] 28)
 have hQ : QI w.heap.size (w1.alloc (.cells #[.slice A5 n5 d5, .slice A6 n6 d6] 28)) (w.heap.size + 1) w1.heap.size (.slice A5 n5 d5) (.slice A6 n6 d6) ls lw :=
  ⟨bR.below b2 bR.lt, Box.new w1 _ _ rfl, (o1.below b2 (Nat.le_refl _)).mono (by omega) b2.size, (o2.below b2 (Nat.le_refl _)).mono (by omega) b2.size, by omega⟩
 replace b0 := b0.trans (b2.mono (by omega))
 clear b2 o1 o2 bR
 generalize w1.alloc _ = w2 at *
 generalize w1.heap.size = gO at *
 go_loopg [5] (Qu.meas ls) (fun gk v5 wr => ∃ (ls' : List Sl) (lw' : List Wt) (A0 A1 : Option Addr) (n0 d0 n1 d1 : Nat), Hid (Qu.parts ls' lw' = true) ∧ Hid (Qu.st ls' lw' = Qu.st ls lw) ∧ Hid (Qu.meas ls' ≤ gk) ∧ Below w.heap.size w wr ∧ QI w.heap.size wr (w.heap.size + 1) gO (.slice A0 n0 d0) (.slice A1 n1 d1) ls' lw')
 case atStart => exact ⟨ls, lw, _, _, _, _, _, _, HP, Lib.hid rfl, Lib.hid (Nat.le_refl _), b0, hQ⟩
 case round =>
  clear b0 hQ HP
  obtain ⟨ls', lw', A0, A1, n0, d0, n1, d1, HP, HS, HM, hB, hQ⟩ := hrel
  have cz := isSettled_any _ _ ls' lw' wr hQ.os.rd hQ.ow.rd (Nat.le_refl _) (Nat.le_refl _) (Qu.parts_get HP.out).1
  have x0 := hQ.out.c0
  have x1 := hQ.out.c1
  cases hq : Qu.settled ls' lw'
  ·rw [hq] at cz
   go_wp2_with fail
   refine cz.mono ?_; rintro q_ w3 ⟨rfl, b3⟩
   replace hQ := hQ.below b3
   replace hB := hB.trans (b3.mono hB.size)
   clear b3 x0 x1 cz
   have x0 := hQ.out.c0
   have x1 := hQ.out.c1
   obtain ⟨t, rest, hlw, hcase⟩ := Qu.unsettled hq
   have HS2 := Lib.hid ((Qu.st_step HP.out hq).symm.trans HS.out)
   have HP2 := Lib.hid (Qu.step_parts HP.out hq)
   obtain ⟨m, rfl⟩ : ∃ m, gk = m + 1 := ⟨gk - 1, by have := Qu.step_meas HP.out hq; have := HM.out; omega⟩
   have HM2 := Lib.hid (show Qu.meas (Qu.step ls' lw').1 ≤ m by have := Qu.step_meas HP.out hq; have := HM.out; omega)
   have HL := Lib.hid (show ls'.length = 4 ∧ lw'.length ≤ 8 from ⟨Sl.good_len (Qu.parts_get HP.out).1, Qu.parts_len HP.out⟩)
   have HG := Lib.hid (Qu.parts_get HP.out).1
   subst hlw
   have HC := Lib.hid hcase
   clear HM HS hcase hq
   have HN := Lib.hid (hQ.ow.rd.n_eq)
   have hn1 : 0 < n1 := by have := HN.out.1; simp at this; omega
   have hn1d : n1 ≤ d1 := HN.out.2.1
   have hn19 : n1 ≤ 8 := by have := HN.out.1; have := HL.out.2; omega
   obtain ⟨bw, off, t', rfl, ht', _, hbw, f0, f1⟩ := Wt.get hQ.ow.rd hn1 (Below.refl w3.heap.size w3) (Nat.le_refl _)
   obtain rfl : t = t' := Option.some.inj ht'.out
   simp only [Nat.zero_mul, Nat.add_zero] at f0 f1
   have zO := hQ.out.lt
   go_upto_region 3 with fail
   have SH : ∀ W, Below w3.heap.size w3 W → (fun (W : World) => W.cell? ⟨gO, 0, none⟩ = some (.slice A0 n0 d0) ∧ W.cell? ⟨gO, 1, none⟩ = some (.slice (some ⟨bw, off, none⟩) n1 d1) ∧ W.cell? ⟨bw, off, none⟩ = some (.int .i64 t.irq) ∧ W.cell? ⟨bw, off + 1, none⟩ = some (.int .i64 t.prio)) W :=
    fun W hb => ⟨(hb.cell (p := ⟨gO, 0, none⟩) zO).trans x0, (hb.cell (p := ⟨gO, 1, none⟩) zO).trans x1, (hb.cell (p := ⟨bw, off, none⟩) hbw).trans f0, (hb.cell (p := ⟨bw, off + 1, none⟩) hbw).trans f1⟩
   have c5 := fun (W : World) (kb : Below w3.heap.size w3 W) => implFree_b _ ls' W (hQ.os.rd.below kb (Nat.le_refl _)) kb.size
   go_cut [4, 5] (fun s4 s5 wx => ∃ gT : Nat, s4 = .pointer (some ⟨gT, 0, none⟩) ∧ s5 = .int .i64 (Sl.fx ls') ∧ Below w3.heap.size w3 wx ∧ Box wx gT 107 [.int .i64 t.irq, .int .i64 t.prio])
   case first =>
    clear x0 x1 f0 f1
    generalize Sl.fx ls' = z at *
    refine wp_region_held_drew (S := fun W => W.cell? ⟨gO, 0, none⟩ = some (.slice A0 n0 d0) ∧ W.cell? ⟨gO, 1, none⟩ = some (.slice (some ⟨bw, off, none⟩) n1 d1) ∧ W.cell? ⟨bw, off, none⟩ = some (.int .i64 t.irq) ∧ W.cell? ⟨bw, off + 1, none⟩ = some (.int .i64 t.prio)) (by kernel_rfl) (SH _ (Below.refl w3.heap.size w3).drew) (fun hHeld => ?_)
    refine wpAnyH_take (i := 0) (v := .pointer (some ⟨gO, 1, none⟩)) rfl (by kernel_rfl) (by kernel_rfl) (by kernel_rfl) (fun _ _ _ h => h) (Or.inl ⟨by rfl, by intro w hSw; obtain ⟨y0, y1, y2, y3⟩ := hSw; go_simp⟩) hHeld ?_
    refine wpAnyH_take (i := 1) (v := .slice (some ⟨bw, off, none⟩) n1 d1) rfl (by kernel_rfl) (by kernel_rfl) (by kernel_rfl) (fun _ _ _ h => h) (Or.inl ⟨by rfl, by intro w hSw; obtain ⟨y0, y1, y2, y3⟩ := hSw; go_simp⟩) hHeld ?_
    refine wpAnyH_take (i := 2) (v := .pointer (some ⟨bw, off, none⟩)) rfl (by kernel_rfl) (by kernel_rfl) (by kernel_rfl) (fun _ _ _ h => h) (Or.inl ⟨by rfl, by intro w hSw; obtain ⟨y0, y1, y2, y3⟩ := hSw; go_simp⟩) hHeld ?_
    refine wpAnyH_take (i := 3) (v := .agg #[.int .i64 t.irq, .int .i64 t.prio]) rfl (by kernel_rfl) (by kernel_rfl) (by kernel_rfl) (fun _ _ _ h => h) (Or.inl ⟨by rfl, by intro w hSw; obtain ⟨y0, y1, y2, y3⟩ := hSw; go_simp⟩) hHeld ?_
    refine wpAnyH_take (i := 4) (v := .pointer (some ⟨gO, 0, none⟩)) rfl (by kernel_rfl) (by kernel_rfl) (by kernel_rfl) (fun _ _ _ h => h) (Or.inl ⟨by rfl, by intro w hSw; obtain ⟨y0, y1, y2, y3⟩ := hSw; go_simp⟩) hHeld ?_
    refine wpAnyH_take (i := 5) (v := .slice A0 n0 d0) rfl (by kernel_rfl) (by kernel_rfl) (by kernel_rfl) (fun _ _ _ h => h) (Or.inl ⟨by rfl, by intro w hSw; obtain ⟨y0, y1, y2, y3⟩ := hSw; go_simp⟩) hHeld ?_
    clear hHeld
    refine held_gen (F := fun W' => Below w3.heap.size w3 W') (Below.refl w3.heap.size w3).drew ?_
    rintro W0 k0
    refine wpAnyH_ready (rs := [6, 7]) (by kernel_rfl) (by decide) ?_
    refine AllReadyH.cons rfl (fun K0 hK0 => ?_) (AllReadyH.cons rfl (fun K0 hK0 => ?_) AllReadyH.nil)
    ·go_simp
     refine (c5 _ k0).mono ?_
     rintro e_ W1 ⟨rfl, k1⟩
     replace k1 := k0.trans (k1.mono k0.size)
     refine hK0.out _ _ (SH _ k1) (fun _ => ?_)
     refine wpAnyH_ready (rs := [7]) (by kernel_rfl) (by decide) ?_
     refine AllReadyH.cons rfl (fun K1 hK1 => ?_) AllReadyH.nil
     go_simp
     refine hK1.out _ _ (SH _ (k1.alloc k1.size (.cells #[.int .i64 0, .int .i64 0] 107))) (fun _ => ?_)
     have bT := Box.new W1 #[.int .i64 0, .int .i64 0] 107 rfl
     have zT := k1.size
     replace k1 := k1.alloc k1.size (.cells #[.int .i64 0, .int .i64 0] 107)
     generalize W1.alloc _ = W2 at *
     generalize W1.heap.size = gT at *
     refine wpAnyH_ready (rs := [8]) (by kernel_rfl) (by decide) ?_
     refine AllReadyH.cons rfl (fun K2 hK2 => ?_) AllReadyH.nil
     have t0 := bT.c0
     have t1 := bT.c1
     have tz := bT.frozen
     go_simp
     generalize hwz : World.setCell (World.setCell _ _ _) _ _ = wz
     obtain rfl : wz = setL W2 gT 0 [.int .i64 t.irq, .int .i64 t.prio] := hwz.symm
     clear hwz
     have k2 := setL_below k1 [.int .i64 t.irq, .int .i64 t.prio] gT 0 zT
     replace bT := bT.setAll [.int .i64 t.irq, .int .i64 t.prio] rfl
     refine hK2.out _ _ (SH _ k2) (fun _ => ?_)
     refine wpAnyH_ready (rs := [9]) (by kernel_rfl) (by decide) ?_
     refine AllReadyH.cons rfl (fun K3 hK3 => ?_) AllReadyH.nil
     go_simp
     refine hK3.out _ _ (SH _ k2) (fun _ => ?_)
     refine ⟨by kernel_rfl, ?_⟩
     go_wp2_with fail
     go_meet
     exact ⟨gT, rfl, rfl, k2, bT⟩
    ·go_simp
     refine hK0.out _ _ (SH _ (k0.alloc k0.size (.cells #[.int .i64 0, .int .i64 0] 107))) (fun _ => ?_)
     have bT := Box.new W0 #[.int .i64 0, .int .i64 0] 107 rfl
     have zT := k0.size
     replace k0 := k0.alloc k0.size (.cells #[.int .i64 0, .int .i64 0] 107)
     generalize W0.alloc _ = W1 at *
     generalize W0.heap.size = gT at *
     refine wpAnyH_ready (rs := [6]) (by kernel_rfl) (by decide) ?_
     refine AllReadyH.cons rfl (fun K1 hK1 => ?_) AllReadyH.nil
     go_simp
     refine (c5 _ k0).mono ?_
     rintro e_ W2 ⟨rfl, k1⟩
     replace bT := bT.below k1 bT.lt
     replace k1 := k0.trans (k1.mono k0.size)
     refine hK1.out _ _ (SH _ k1) (fun _ => ?_)
     refine wpAnyH_ready (rs := [8]) (by kernel_rfl) (by decide) ?_
     refine AllReadyH.cons rfl (fun K2 hK2 => ?_) AllReadyH.nil
     have t0 := bT.c0
     have t1 := bT.c1
     have tz := bT.frozen
     go_simp
     generalize hwz : World.setCell (World.setCell _ _ _) _ _ = wz
     obtain rfl : wz = setL W2 gT 0 [.int .i64 t.irq, .int .i64 t.prio] := hwz.symm
     clear hwz
     have k2 := setL_below k1 [.int .i64 t.irq, .int .i64 t.prio] gT 0 zT
     replace bT := bT.setAll [.int .i64 t.irq, .int .i64 t.prio] rfl
     refine hK2.out _ _ (SH _ k2) (fun _ => ?_)
     refine wpAnyH_ready (rs := [9]) (by kernel_rfl) (by decide) ?_
     refine AllReadyH.cons rfl (fun K3 hK3 => ?_) AllReadyH.nil
     go_simp
     refine hK3.out _ _ (SH _ k2) (fun _ => ?_)
     refine ⟨by kernel_rfl, ?_⟩
     go_wp2_with fail
     go_meet
     exact ⟨gT, rfl, rfl, k2, bT⟩
   case rest =>
    obtain ⟨gT, rfl, rfl, b4, bT⟩ := hcut
    replace hQ := hQ.below b4
    replace hB := hB.trans (b4.mono hB.size)
    have zw4 := b4.size
    clear b4 x0 x1 f0 f1 ht'
    have x0 := hQ.out.c0
    have x1 := hQ.out.c1
    have y0 := bT.c0
    have y1 := bT.c1
    replace zO := hQ.out.lt
    have zT := bT.lt
    have oz := hQ.out.frozen
    have hgO : w.heap.size ≤ gO := by omega
    go_upto_region 5 with fail
    generalize hBv : (if d1 = 1 then (some ⟨bw, off, none⟩ : Option Addr) else some ⟨bw, off + 2, none⟩) = B1
    have oD := hQ.ow.dropn (k := 1) (by omega)
    rw [dropA_some, Nat.one_mul, List.drop_succ_cons, List.drop_zero, hBv] at oD
    clear hBv
    generalize hwz : World.setCell _ _ _ = wz
    obtain rfl : wz = setL wc gO 1 [.slice B1 (n1 - 1) (d1 - 1)] := hwz.symm
    clear hwz
    have szc : (setL wc gO 1 [.slice B1 (n1 - 1) (d1 - 1)]).heap.size = wc.heap.size := setL_size _ _ _ _
    replace hB := setL_below hB [.slice B1 (n1 - 1) (d1 - 1)] gO 1 hgO
    have bTn : gT ≠ gO := fun e => by
     subst e
     have h1 := hQ.out; have h2 := bT
     unfold Box at h1 h2
     rw [h1] at h2
     cases h2
    replace bT := bT.other bTn 1 [.slice B1 (n1 - 1) (d1 - 1)]
    replace hQ : QI w.heap.size (setL wc gO 1 [.slice B1 (n1 - 1) (d1 - 1)]) (w.heap.size + 1) gO (.slice A0 n0 d0) (.slice B1 (n1 - 1) (d1 - 1)) ls' rest :=
     ⟨hQ.res.other hQ.ne 1 _, hQ.out.set1 _ (by simp), (hQ.os.box hQ.out (by decide) 1 _).mono (Nat.le_refl _) (by omega), (oD.box hQ.out (by decide) 1 _).mono (Nat.le_refl _) (by omega), hQ.ne⟩
    clear x0 x1 y0 y1 oz oD zT
    generalize setL wc gO 1 [.slice B1 (n1 - 1) (d1 - 1)] = w5 at *
    have x0 := hQ.out.c0
    have x1 := hQ.out.c1
    have y0 := bT.c0
    have y1 := bT.c1
    replace zO := hQ.out.lt
    have zT := bT.lt
    rcases HC.out with ⟨k, s, hk, hkl, hsk, h0⟩ | ⟨hf, k, s, hk, hkl, hsk, h1, hlt⟩
    ·have HK := Lib.hid hk
     have hkd : decide ((k : Int) < 0) = false := by simp
     rw [hk]
     clear hk h0 HC
     have HSK := Lib.hid hsk
     have hN0 := hQ.os.rd.n_eq
     have hkn : k < n0 := by omega
     have hki : (k : Int) < (n0 : Int) := by omega
     clear hN0
     obtain ⟨bs, os, s', rfl, hs', hbs0, hbs, f0, f1, f2⟩ := Sl.get hQ.os.rd hkn (Below.refl w5.heap.size w5) (Nat.le_refl _)
     obtain rfl : s = s' := Option.some.inj (HSK.out.symm.trans hs'.out)
     have sz := hQ.os.frozen (by omega)
     clear hs'
     go_wp2_with fail
     go_roundg m
     case rel =>
      generalize hwz : World.setCell (World.setCell (World.setCell _ _ _) _ _) _ _ = wz
      obtain rfl : wz = setL w5 bs (os + k * 3) [.int .i64 1, .int .i64 t.irq, .int .i64 t.prio] := hwz.symm
      clear hwz
      have sz : (setL w5 bs (os + k * 3) [.int .i64 1, .int .i64 t.irq, .int .i64 t.prio]).heap.size = w5.heap.size := setL_size _ _ _ _
      have hE := Qu.step_free (ls := ls') (t := t) (rest := rest) HK.out
      rw [hE] at HS2 HP2 HM2
      have hu : Upd 93 3 w5 (setL w5 bs (os + k * 3) [.int .i64 1, .int .i64 t.irq, .int .i64 t.prio]) bs (os + k * 3) (Sl.cells s) (Sl.cells (Sl.pend t)) := by
       have := Upd.of_setL (E := 93) (sz := 3) (w := w5) (b := bs) (o := os + k * 3) (xs := Sl.cells s) (ys' := Sl.cells (Sl.pend t)) (ys := [.int .i64 1, .int .i64 t.irq, .int .i64 t.prio]) 0 rfl rfl (by simp)
       simpa using this
      refine ⟨_, _, _, _, _, _, _, _, HP2, HS2, HM2, setL_below hB _ bs _ (by omega), ⟨hQ.res.row hQ.os (by omega) (by decide) _ _, hQ.out.row hQ.os (by omega) (by decide) _ _, ?_, ?_, hQ.ne⟩⟩
      ·exact (hQ.os.upd Sl.cells_len (by omega) HSK.out hu).mono (Nat.le_refl _) (by omega)
      ·exact (hQ.ow.row_type hQ.os (by omega) (by decide) _ _).mono (Nat.le_refl _) (by omega)
     case measure => exact Nat.lt_succ_self _
    ·have HK := Lib.hid hk
     have HF := Lib.hid hf
     have hkd : decide ((k : Int) < 0) = false := by simp
     have c7 := pendingSlot_any _ ls' false w5 hQ.os.rd (Nat.le_refl _) HG.out
     rw [hf]
     rw [show Sl.best false ls' ls'.length = k from hk] at c7
     clear hk hf h1 hlt HC
     go_wp2_with fail
     refine c7.mono ?_; rintro q_ w7 ⟨rfl, b7⟩
     replace hQ := hQ.below b7
     replace bT := bT.below b7 bT.lt
     have zb7 := b7.size
     replace hB := hB.trans (b7.mono hB.size)
     clear b7 x0 x1 y0 y1 zT
     clear c7
     have x0 := hQ.out.c0
     have x1 := hQ.out.c1
     have y0 := bT.c0
     have y1 := bT.c1
     replace zO := hQ.out.lt
     have zT := bT.lt
     have HSK2 := Lib.hid hsk
     have hN0 := hQ.os.rd.n_eq
     have hkn2 : k < n0 := by omega
     have hki2 : (k : Int) < (n0 : Int) := by omega
     clear hN0
     obtain ⟨bs, os, s', rfl, hs', hbs0, hbs, f0, f1, f2⟩ := Sl.get hQ.os.rd hkn2 (Below.refl w7.heap.size w7) (Nat.le_refl _)
     obtain rfl : s = s' := Option.some.inj (HSK2.out.symm.trans hs'.out)
     clear hs' hsk
     go_upto_region 7 with fail
     have e0 := cell_ext x0; have e1 := cell_ext x1; have e2 := cell_ext f0; have e3 := cell_ext f1; have e4 := cell_ext f2
     refine wp_region_ext 8 (by kernel_rfl) (by kernel_rfl) ?_
     simp only [List.take_succ_cons, List.take_zero, List.drop_succ_cons, List.drop_zero]
     repeat (quiet_step ((go_at_call 107; exact calls_ext (waiterOf_at _ _ _ _))))
     refine wpQuiet_nil ?_
     intro w8 b8
     clear e0 e1 e2 e3 e4 f0 f1 f2
     replace hQ := hQ.below b8
     replace bT := bT.below b8 bT.lt
     have zb8 := b8.size
     replace hB := hB.trans (b8.mono hB.size)
     clear b8 x0 x1 y0 y1 zT
     have x0 := hQ.out.c0
     have x1 := hQ.out.c1
     have y0 := bT.c0
     have y1 := bT.c1
     replace zO := hQ.out.lt
     have zT := bT.lt
     go_wp2_with fail
     refine (implWait_any _ rest ⟨s.irq, s.prio⟩ w8 hQ.ow.rd (Nat.le_refl _) (by have := HL.out.2; simp at this; omega)).mono ?_; rintro q_ w9 ⟨v9, rfl, o9, b9⟩
     obtain ⟨A7, n7, d7, rfl, _, _, _⟩ := o9.rd.form
     replace hQ := hQ.below b9
     replace bT := bT.below b9 bT.lt
     have zb9 := b9.size
     replace hB := hB.trans (b9.mono hB.size)
     clear b9 x0 x1 y0 y1 zT
     have x0 := hQ.out.c0
     have x1 := hQ.out.c1
     have y0 := bT.c0
     have y1 := bT.c1
     replace zO := hQ.out.lt
     have zT := bT.lt
     have oz := hQ.out.frozen
     go_upto_region 8 with fail
     generalize hwz : World.setCell _ _ _ = wz
     obtain rfl : wz = setL w9 gO 1 [.slice A7 n7 d7] := hwz.symm
     clear hwz
     have szd : (setL w9 gO 1 [.slice A7 n7 d7]).heap.size = w9.heap.size := setL_size _ _ _ _
     replace hB := setL_below hB [.slice A7 n7 d7] gO 1 hgO
     replace bT := bT.other bTn 1 [.slice A7 n7 d7]
     replace hQ : QI w.heap.size (setL w9 gO 1 [.slice A7 n7 d7]) (w.heap.size + 1) gO (.slice (some ⟨bs, os, none⟩) n0 d0) (.slice A7 n7 d7) ls' (Wt.ins rest ⟨s.irq, s.prio⟩) :=
      ⟨hQ.res.other hQ.ne 1 _, hQ.out.set1 _ (by simp), (hQ.os.box hQ.out (by decide) 1 _).mono (Nat.le_refl _) (by omega), (o9.box hQ.out (by decide) 1 _).mono (by omega) (by omega), hQ.ne⟩
     clear x0 x1 y0 y1 oz o9 zT
     generalize setL w9 gO 1 [.slice A7 n7 d7] = wd at *
     have x0 := hQ.out.c0
     have x1 := hQ.out.c1
     have y0 := bT.c0
     have y1 := bT.c1
     replace zO := hQ.out.lt
     have zT := bT.lt
     have hsk := HSK2.out
     have HSK := Lib.hid hsk
     have hN0 := hQ.os.rd.n_eq
     have hkn : k < n0 := by omega
     have hki : (k : Int) < (n0 : Int) := by omega
     clear hN0
     obtain ⟨bs', os', s', e_, hs', hbs0, hbs, f0, f1, f2⟩ := Sl.get hQ.os.rd hkn (Below.refl wd.heap.size wd) (Nat.le_refl _)
     injection e_ with e_
     injection e_ with e1_ e2_
     subst e1_; subst e2_
     obtain rfl : s = s' := Option.some.inj (HSK.out.symm.trans hs'.out)
     have sz := hQ.os.frozen (by omega)
     clear hs'
     go_wp2_with fail
     go_roundg m
     case rel =>
      generalize hwz : World.setCell (World.setCell (World.setCell _ _ _) _ _) _ _ = wz
      obtain rfl : wz = setL wd bs (os + k * 3) [.int .i64 1, .int .i64 t.irq, .int .i64 t.prio] := hwz.symm
      clear hwz
      have sz : (setL wd bs (os + k * 3) [.int .i64 1, .int .i64 t.irq, .int .i64 t.prio]).heap.size = wd.heap.size := setL_size _ _ _ _
      have hE := Qu.step_full (ls := ls') (t := t) (rest := rest) HF.out HK.out HSK.out
      rw [hE] at HS2 HP2 HM2
      have hu : Upd 93 3 wd (setL wd bs (os + k * 3) [.int .i64 1, .int .i64 t.irq, .int .i64 t.prio]) bs (os + k * 3) (Sl.cells s) (Sl.cells (Sl.pend t)) := by
       have := Upd.of_setL (E := 93) (sz := 3) (w := wd) (b := bs) (o := os + k * 3) (xs := Sl.cells s) (ys' := Sl.cells (Sl.pend t)) (ys := [.int .i64 1, .int .i64 t.irq, .int .i64 t.prio]) 0 rfl rfl (by simp)
       simpa using this
      refine ⟨_, _, _, _, _, _, _, _, HP2, HS2, HM2, setL_below hB _ bs _ (by omega), ⟨hQ.res.row hQ.os (by omega) (by decide) _ _, hQ.out.row hQ.os (by omega) (by decide) _ _, ?_, ?_, hQ.ne⟩⟩
      ·exact (hQ.os.upd Sl.cells_len (by omega) HSK.out hu).mono (Nat.le_refl _) (by omega)
      ·exact (hQ.ow.row_type hQ.os (by omega) (by decide) _ _).mono (Nat.le_refl _) (by omega)
     case measure => exact Nat.lt_succ_self _
  ·have HF := Lib.hid ((HS.out).symm.trans (Qu.st_done hq))
   rw [hq] at cz
   clear hq
   go_wp2_with fail
   refine cz.mono ?_; rintro q_ w3 ⟨rfl, b3⟩
   replace hQ := hQ.below b3
   replace hB := hB.trans (b3.mono hB.size)
   clear b3 x0 x1 cz
   have x0 := hQ.out.c0
   have x1 := hQ.out.c1
   have r0 := hQ.res.c0
   have r1 := hQ.res.c1
   have rz := hQ.res.frozen
   have zO := hQ.out.lt
   have zR := hQ.res.lt
   go_wp2_with fail
   generalize hwz : World.setCell (World.setCell _ _ _) _ _ = wz
   obtain rfl : wz = setL w3 (w.heap.size + 1) 0 [.slice A0 n0 d0, .slice A1 n1 d1] := hwz.symm
   have bRz := hQ.res.setAll [.slice A0 n0 d0, .slice A1 n1 d1] rfl
   have u0 := bRz.c0
   have u1 := bRz.c1
   have oS := hQ.os.box hQ.res (by decide) 0 [.slice A0 n0 d0, .slice A1 n1 d1]
   have oW := hQ.ow.box hQ.res (by decide) 0 [.slice A0 n0 d0, .slice A1 n1 d1]
   have hbz := setL_below hB [.slice A0 n0 d0, .slice A1 n1 d1] (w.heap.size + 1) 0 (by omega)
   have sz : (setL w3 (w.heap.size + 1) 0 [.slice A0 n0 d0, .slice A1 n1 d1]).heap.size = w3.heap.size := setL_size _ _ _ _
   clear hwz hQ hB bRz x0 x1 r0 r1 rz
   generalize setL w3 (w.heap.size + 1) 0 [.slice A0 n0 d0, .slice A1 n1 d1] = wz at *
   refine bodyPost_ret (by simp only [results, Tryz.results122]; simp [go_sem, u0, u1]; rfl) rfl ?_
   exact ⟨_, _, rfl, by rw [HF.out]; exact oS.mono (Nat.le_refl _) (by omega), by rw [HF.out]; exact oW.mono (Nat.le_refl _) (by omega), hbz⟩

end Go.Proofs.YtndfmkbpdoohfaaGreat

/- Settling, ending and offering: the inner functions and the public ones, in the program and in the reference. Conditions: the inner ones want valid parts. -/
namespace Go.Proofs.YtndfmkbpdoohfaaGreat
open Go.RowKit Go.ChangeShapes Go.WideShapes Go.Deep

set_option maxHeartbeats 8000000 in
theorem specEndQ_in (vs vw : Value) (ls : List Sl) (lw : List Wt) (i : Int) (w : World) {lo hi lo2 hi2 : Nat} (h : Rd Sl.cells 3 w lo hi vs ls) (h2 : Rd Wt.cells 2 w lo2 hi2 vw lw) (hh : hi ≤ w.heap.size) (hh2 : hi2 ≤ w.heap.size) (hp : Qu.parts ls lw = true) :
  Calls Tryz.prog 88 #[.agg #[vs, vw], .int .i64 i] w fun e w' => ∃ v1 v2, e = .returned (.tuple #[.agg #[v1, v2], .bool (Sl.endOk ls i)]) ∧ Ow Sl.cells 3 93 w' w.heap.size w'.heap.size v1 (Qu.eiS ls lw i) ∧ Ow Wt.cells 2 107 w' w.heap.size w'.heap.size v2 (Qu.eiW ls lw i) ∧ Below w.heap.size w w' := by
 have b0 : Below w.heap.size w ((w.alloc (.cells #[vs, vw] 28)).alloc (.cells #[.slice none 0 0, .slice none 0 0] 28)) := ((Below.refl w.heap.size w).alloc (Nat.le_refl _) _).alloc (by simp) _
 have z0 : ((w.alloc (.cells #[vs, vw] 28)).alloc (.cells #[.slice none 0 0, .slice none 0 0] 28)).heap.size = w.heap.size + 2 := by simp
 have bq := Box.new w #[vs, vw] 28 rfl
 have bR := Box.new (g := w.heap.size + 1) (w.alloc (.cells #[vs, vw] 28)) #[.slice none 0 0, .slice none 0 0] 28 (by simp)
 replace bq := bq.below ((Below.refl _ (w.alloc (.cells #[vs, vw] 28))).alloc (Nat.le_refl _) (.cells #[.slice none 0 0, .slice none 0 0] 28)) bq.lt
 have hs := h.below b0 hh
 have hw := h2.below b0 hh2
 have hv_ := h.form
 have hv2_ := h2.form
 clear h h2
 generalize hwA : ((w.alloc (.cells #[vs, vw] 28)).alloc (.cells #[.slice none 0 0, .slice none 0 0] 28)) = wA at *
 obtain ⟨A0, n0, d0, rfl, _, _, _⟩ := hv_
 obtain ⟨A1, n1, d1, rfl, _, _, _⟩ := hv2_
 have hg := (Qu.parts_get hp).1
 have c1 := specEnd_in _ ls i _ hs (by omega) hg
 clear hg
 cases hk : Sl.endOk ls i
 ·have HF := Lib.hid (Qu.ei_no hk lw)
  rw [hk] at c1
  clear hk hp
  go_enter Tryz.func88, Tryz.ntmps88
  have bq_0 := bq.c0
  have bq_1 := bq.c1
  have bq_z := bq.frozen
  have bq_l := bq.lt
  have bR_0 := bR.c0
  have bR_1 := bR.c1
  have bR_z := bR.frozen
  have bR_l := bR.lt
  go_wp2_with fail
  clear hwA
  clear bq_0 bq_1 bq_z bq_l bR_0 bR_1 bR_z bR_l
  refine (c1).mono ?_; rintro q_ w1 ⟨v3, rfl, o3, b_1⟩
  replace bq := bq.below b_1 bq.lt
  replace bR := bR.below b_1 bR.lt
  replace hs := hs.below b_1 (by omega)
  replace hw := hw.below b_1 (by omega)
  have z_2 := b_1.size
  replace b0 := b0.trans (b_1.mono (by omega))
  clear b_1
  obtain ⟨A3, n3, d3, rfl, _, _, _⟩ := o3.rd.form
  have bq_0 := bq.c0
  have bq_1 := bq.c1
  have bq_z := bq.frozen
  have bq_l := bq.lt
  have bR_0 := bR.c0
  have bR_1 := bR.c1
  have bR_z := bR.frozen
  have bR_l := bR.lt
  go_wp2_with fail
  clear bq_0 bq_1 bq_z bq_l bR_0 bR_1 bR_z bR_l
  generalize hwz : World.setCell (World.setCell _ _ _) _ _ = wz_
  obtain rfl : wz_ = setL w1 (w.heap.size + 1) 0 [.slice none 0 0, .slice none 0 0] := hwz.symm
  clear hwz
  replace bq := bq.other (b := w.heap.size + 1) (by omega) 0 [.slice none 0 0, .slice none 0 0]
  replace hs := hs.away (g := w.heap.size + 1) (by omega) 0 [.slice none 0 0, .slice none 0 0]
  replace hw := hw.away (g := w.heap.size + 1) (by omega) 0 [.slice none 0 0, .slice none 0 0]
  replace o3 := o3.box (g := w.heap.size + 1) bR (by decide) 0 [.slice none 0 0, .slice none 0 0]
  replace b0 := setL_below b0 [.slice none 0 0, .slice none 0 0] (w.heap.size + 1) 0 (by omega)
  have zs_3 : (setL w1 (w.heap.size + 1) 0 [.slice none 0 0, .slice none 0 0]).heap.size = w1.heap.size := setL_size _ _ _ _
  replace bR := bR.setAll [.slice none 0 0, .slice none 0 0] rfl
  generalize setL w1 _ 0 _ = w3 at *
  have u0_ := bR.c0
  have u1_ := bR.c1
  refine bodyPost_ret (by simp only [results, Tryz.results88]; simp [go_sem, u0_, u1_]; rfl) rfl ?_
  exact ⟨_, _, rfl, by rw [HF.out.1]; exact Ow.nil_, by rw [HF.out.2]; exact Ow.nil_, b0⟩
 ·have HF := Lib.hid (Qu.ei_yes hk lw)
  have HP := Lib.hid (Qu.en_parts hp hk)
  rw [hk] at c1
  clear hk hp
  go_enter Tryz.func88, Tryz.ntmps88
  have bq_0 := bq.c0
  have bq_1 := bq.c1
  have bq_z := bq.frozen
  have bq_l := bq.lt
  have bR_0 := bR.c0
  have bR_1 := bR.c1
  have bR_z := bR.frozen
  have bR_l := bR.lt
  go_wp2_with fail
  clear hwA
  clear bq_0 bq_1 bq_z bq_l bR_0 bR_1 bR_z bR_l
  refine (c1).mono ?_; rintro q_ w1 ⟨v3, rfl, o3, b_1⟩
  replace bq := bq.below b_1 bq.lt
  replace bR := bR.below b_1 bR.lt
  replace hs := hs.below b_1 (by omega)
  replace hw := hw.below b_1 (by omega)
  have z_2 := b_1.size
  replace b0 := b0.trans (b_1.mono (by omega))
  clear b_1
  obtain ⟨A3, n3, d3, rfl, _, _, _⟩ := o3.rd.form
  have bq_0 := bq.c0
  have bq_1 := bq.c1
  have bq_z := bq.frozen
  have bq_l := bq.lt
  have bR_0 := bR.c0
  have bR_1 := bR.c1
  have bR_z := bR.frozen
  have bR_l := bR.lt
  go_wp2_with fail
  clear bq_0 bq_1 bq_z bq_l bR_0 bR_1 bR_z bR_l
  refine (specSettle_any _ _ (Sl.endR ls i) lw w1 o3.rd hw (by omega) (by omega) HP.out).mono ?_; rintro q_ w3 ⟨v5, v6, rfl, o5, o6, b_3⟩
  replace bq := bq.below b_3 bq.lt
  replace bR := bR.below b_3 bR.lt
  replace hs := hs.below b_3 (by omega)
  replace hw := hw.below b_3 (by omega)
  replace o3 := o3.below b_3 (by omega)
  have z_4 := b_3.size
  replace b0 := b0.trans (b_3.mono (by omega))
  clear b_3
  obtain ⟨A5, n5, d5, rfl, _, _, _⟩ := o5.rd.form
  obtain ⟨A6, n6, d6, rfl, _, _, _⟩ := o6.rd.form
  have bq_0 := bq.c0
  have bq_1 := bq.c1
  have bq_z := bq.frozen
  have bq_l := bq.lt
  have bR_0 := bR.c0
  have bR_1 := bR.c1
  have bR_z := bR.frozen
  have bR_l := bR.lt
  go_wp2_with fail
  clear bq_0 bq_1 bq_z bq_l bR_0 bR_1 bR_z bR_l
  generalize hwz : World.setCell (World.setCell _ _ _) _ _ = wz_
  obtain rfl : wz_ = setL w3 (w.heap.size + 1) 0 [.slice A5 n5 d5, .slice A6 n6 d6] := hwz.symm
  clear hwz
  replace bq := bq.other (b := w.heap.size + 1) (by omega) 0 [.slice A5 n5 d5, .slice A6 n6 d6]
  replace hs := hs.away (g := w.heap.size + 1) (by omega) 0 [.slice A5 n5 d5, .slice A6 n6 d6]
  replace hw := hw.away (g := w.heap.size + 1) (by omega) 0 [.slice A5 n5 d5, .slice A6 n6 d6]
  replace o3 := o3.box (g := w.heap.size + 1) bR (by decide) 0 [.slice A5 n5 d5, .slice A6 n6 d6]
  replace o5 := o5.box (g := w.heap.size + 1) bR (by decide) 0 [.slice A5 n5 d5, .slice A6 n6 d6]
  replace o6 := o6.box (g := w.heap.size + 1) bR (by decide) 0 [.slice A5 n5 d5, .slice A6 n6 d6]
  replace b0 := setL_below b0 [.slice A5 n5 d5, .slice A6 n6 d6] (w.heap.size + 1) 0 (by omega)
  have zs_5 : (setL w3 (w.heap.size + 1) 0 [.slice A5 n5 d5, .slice A6 n6 d6]).heap.size = w3.heap.size := setL_size _ _ _ _
  replace bR := bR.setAll [.slice A5 n5 d5, .slice A6 n6 d6] rfl
  generalize setL w3 _ 0 _ = w5 at *
  have u0_ := bR.c0
  have u1_ := bR.c1
  refine bodyPost_ret (by simp only [results, Tryz.results88]; simp [go_sem, u0_, u1_]; rfl) rfl ?_
  exact ⟨_, _, rfl, by rw [HF.out.1]; exact o5.mono (by omega) (by omega), by rw [HF.out.2]; exact o6.mono (by omega) (by omega), b0⟩
set_option maxHeartbeats 8000000 in
theorem implEndQ_in (vs vw : Value) (ls : List Sl) (lw : List Wt) (i : Int) (w : World) {lo hi lo2 hi2 : Nat} (h : Rd Sl.cells 3 w lo hi vs ls) (h2 : Rd Wt.cells 2 w lo2 hi2 vw lw) (hh : hi ≤ w.heap.size) (hh2 : hi2 ≤ w.heap.size) (hp : Qu.parts ls lw = true) :
  Calls Tryz.prog 87 #[.agg #[vs, vw], .int .i64 i] w fun e w' => ∃ v1 v2, e = .returned (.tuple #[.agg #[v1, v2], .bool (Sl.endOk ls i)]) ∧ Ow Sl.cells 3 93 w' w.heap.size w'.heap.size v1 (Qu.eiS ls lw i) ∧ Ow Wt.cells 2 107 w' w.heap.size w'.heap.size v2 (Qu.eiW ls lw i) ∧ Below w.heap.size w w' := by
 have b0 : Below w.heap.size w ((w.alloc (.cells #[vs, vw] 28)).alloc (.cells #[.slice none 0 0, .slice none 0 0] 28)) := ((Below.refl w.heap.size w).alloc (Nat.le_refl _) _).alloc (by simp) _
 have z0 : ((w.alloc (.cells #[vs, vw] 28)).alloc (.cells #[.slice none 0 0, .slice none 0 0] 28)).heap.size = w.heap.size + 2 := by simp
 have bq := Box.new w #[vs, vw] 28 rfl
 have bR := Box.new (g := w.heap.size + 1) (w.alloc (.cells #[vs, vw] 28)) #[.slice none 0 0, .slice none 0 0] 28 (by simp)
 replace bq := bq.below ((Below.refl _ (w.alloc (.cells #[vs, vw] 28))).alloc (Nat.le_refl _) (.cells #[.slice none 0 0, .slice none 0 0] 28)) bq.lt
 have hs := h.below b0 hh
 have hw := h2.below b0 hh2
 have hv_ := h.form
 have hv2_ := h2.form
 clear h h2
 generalize hwA : ((w.alloc (.cells #[vs, vw] 28)).alloc (.cells #[.slice none 0 0, .slice none 0 0] 28)) = wA at *
 obtain ⟨A0, n0, d0, rfl, _, _, _⟩ := hv_
 obtain ⟨A1, n1, d1, rfl, _, _, _⟩ := hv2_
 have hg := (Qu.parts_get hp).1
 have c1 := implEnd_in _ ls i _ hs (by omega) hg
 clear hg
 cases hk : Sl.endOk ls i
 ·have HF := Lib.hid (Qu.ei_no hk lw)
  rw [hk] at c1
  clear hk hp
  go_enter Tryz.func87, Tryz.ntmps87
  have bq_0 := bq.c0
  have bq_1 := bq.c1
  have bq_z := bq.frozen
  have bq_l := bq.lt
  have bR_0 := bR.c0
  have bR_1 := bR.c1
  have bR_z := bR.frozen
  have bR_l := bR.lt
  go_wp2_with fail
  clear hwA
  clear bq_0 bq_1 bq_z bq_l bR_0 bR_1 bR_z bR_l
  refine (c1).mono ?_; rintro q_ w1 ⟨v3, rfl, o3, b_1⟩
  replace bq := bq.below b_1 bq.lt
  replace bR := bR.below b_1 bR.lt
  replace hs := hs.below b_1 (by omega)
  replace hw := hw.below b_1 (by omega)
  have z_2 := b_1.size
  replace b0 := b0.trans (b_1.mono (by omega))
  clear b_1
  obtain ⟨A3, n3, d3, rfl, _, _, _⟩ := o3.rd.form
  have bq_0 := bq.c0
  have bq_1 := bq.c1
  have bq_z := bq.frozen
  have bq_l := bq.lt
  have bR_0 := bR.c0
  have bR_1 := bR.c1
  have bR_z := bR.frozen
  have bR_l := bR.lt
  go_wp2_with fail
  clear bq_0 bq_1 bq_z bq_l bR_0 bR_1 bR_z bR_l
  generalize hwz : World.setCell (World.setCell _ _ _) _ _ = wz_
  obtain rfl : wz_ = setL w1 (w.heap.size + 1) 0 [.slice none 0 0, .slice none 0 0] := hwz.symm
  clear hwz
  replace bq := bq.other (b := w.heap.size + 1) (by omega) 0 [.slice none 0 0, .slice none 0 0]
  replace hs := hs.away (g := w.heap.size + 1) (by omega) 0 [.slice none 0 0, .slice none 0 0]
  replace hw := hw.away (g := w.heap.size + 1) (by omega) 0 [.slice none 0 0, .slice none 0 0]
  replace o3 := o3.box (g := w.heap.size + 1) bR (by decide) 0 [.slice none 0 0, .slice none 0 0]
  replace b0 := setL_below b0 [.slice none 0 0, .slice none 0 0] (w.heap.size + 1) 0 (by omega)
  have zs_3 : (setL w1 (w.heap.size + 1) 0 [.slice none 0 0, .slice none 0 0]).heap.size = w1.heap.size := setL_size _ _ _ _
  replace bR := bR.setAll [.slice none 0 0, .slice none 0 0] rfl
  generalize setL w1 _ 0 _ = w3 at *
  have u0_ := bR.c0
  have u1_ := bR.c1
  refine bodyPost_ret (by simp only [results, Tryz.results87]; simp [go_sem, u0_, u1_]; rfl) rfl ?_
  exact ⟨_, _, rfl, by rw [HF.out.1]; exact Ow.nil_, by rw [HF.out.2]; exact Ow.nil_, b0⟩
 ·have HF := Lib.hid (Qu.ei_yes hk lw)
  have HP := Lib.hid (Qu.en_parts hp hk)
  rw [hk] at c1
  clear hk hp
  go_enter Tryz.func87, Tryz.ntmps87
  have bq_0 := bq.c0
  have bq_1 := bq.c1
  have bq_z := bq.frozen
  have bq_l := bq.lt
  have bR_0 := bR.c0
  have bR_1 := bR.c1
  have bR_z := bR.frozen
  have bR_l := bR.lt
  go_wp2_with fail
  clear hwA
  clear bq_0 bq_1 bq_z bq_l bR_0 bR_1 bR_z bR_l
  refine (c1).mono ?_; rintro q_ w1 ⟨v3, rfl, o3, b_1⟩
  replace bq := bq.below b_1 bq.lt
  replace bR := bR.below b_1 bR.lt
  replace hs := hs.below b_1 (by omega)
  replace hw := hw.below b_1 (by omega)
  have z_2 := b_1.size
  replace b0 := b0.trans (b_1.mono (by omega))
  clear b_1
  obtain ⟨A3, n3, d3, rfl, _, _, _⟩ := o3.rd.form
  have bq_0 := bq.c0
  have bq_1 := bq.c1
  have bq_z := bq.frozen
  have bq_l := bq.lt
  have bR_0 := bR.c0
  have bR_1 := bR.c1
  have bR_z := bR.frozen
  have bR_l := bR.lt
  go_wp2_with fail
  clear bq_0 bq_1 bq_z bq_l bR_0 bR_1 bR_z bR_l
  refine (implSettle_any _ _ (Sl.endR ls i) lw w1 o3.rd hw (by omega) (by omega) HP.out).mono ?_; rintro q_ w3 ⟨v5, v6, rfl, o5, o6, b_3⟩
  replace bq := bq.below b_3 bq.lt
  replace bR := bR.below b_3 bR.lt
  replace hs := hs.below b_3 (by omega)
  replace hw := hw.below b_3 (by omega)
  replace o3 := o3.below b_3 (by omega)
  have z_4 := b_3.size
  replace b0 := b0.trans (b_3.mono (by omega))
  clear b_3
  obtain ⟨A5, n5, d5, rfl, _, _, _⟩ := o5.rd.form
  obtain ⟨A6, n6, d6, rfl, _, _, _⟩ := o6.rd.form
  have bq_0 := bq.c0
  have bq_1 := bq.c1
  have bq_z := bq.frozen
  have bq_l := bq.lt
  have bR_0 := bR.c0
  have bR_1 := bR.c1
  have bR_z := bR.frozen
  have bR_l := bR.lt
  go_wp2_with fail
  clear bq_0 bq_1 bq_z bq_l bR_0 bR_1 bR_z bR_l
  generalize hwz : World.setCell (World.setCell _ _ _) _ _ = wz_
  obtain rfl : wz_ = setL w3 (w.heap.size + 1) 0 [.slice A5 n5 d5, .slice A6 n6 d6] := hwz.symm
  clear hwz
  replace bq := bq.other (b := w.heap.size + 1) (by omega) 0 [.slice A5 n5 d5, .slice A6 n6 d6]
  replace hs := hs.away (g := w.heap.size + 1) (by omega) 0 [.slice A5 n5 d5, .slice A6 n6 d6]
  replace hw := hw.away (g := w.heap.size + 1) (by omega) 0 [.slice A5 n5 d5, .slice A6 n6 d6]
  replace o3 := o3.box (g := w.heap.size + 1) bR (by decide) 0 [.slice A5 n5 d5, .slice A6 n6 d6]
  replace o5 := o5.box (g := w.heap.size + 1) bR (by decide) 0 [.slice A5 n5 d5, .slice A6 n6 d6]
  replace o6 := o6.box (g := w.heap.size + 1) bR (by decide) 0 [.slice A5 n5 d5, .slice A6 n6 d6]
  replace b0 := setL_below b0 [.slice A5 n5 d5, .slice A6 n6 d6] (w.heap.size + 1) 0 (by omega)
  have zs_5 : (setL w3 (w.heap.size + 1) 0 [.slice A5 n5 d5, .slice A6 n6 d6]).heap.size = w3.heap.size := setL_size _ _ _ _
  replace bR := bR.setAll [.slice A5 n5 d5, .slice A6 n6 d6] rfl
  generalize setL w3 _ 0 _ = w5 at *
  have u0_ := bR.c0
  have u1_ := bR.c1
  refine bodyPost_ret (by simp only [results, Tryz.results87]; simp [go_sem, u0_, u1_]; rfl) rfl ?_
  exact ⟨_, _, rfl, by rw [HF.out.1]; exact o5.mono (by omega) (by omega), by rw [HF.out.2]; exact o6.mono (by omega) (by omega), b0⟩

end Go.Proofs.YtndfmkbpdoohfaaGreat

/- The place of a waiting interrupt, in the reference. No condition. -/
namespace Go.Proofs.YtndfmkbpdoohfaaGreat
open Go.RowKit Go.ChangeShapes Go.WideShapes Go.Deep

theorem l9Has_any (v : Value) (l : List Wt) (i : Int) (w : World) {lo hi : Nat} (h : Rd Wt.cells 2 w lo hi v l) (hh : hi ≤ w.heap.size) : Calls Tryz.prog 129 #[v, .int .i64 i] w fun e w' => e = .returned (.int .i64 (findIx (Wt.isI i) l)) ∧ w = w' := by
 obtain ⟨A, n, c, rfl, H, hc, hm⟩ := h.form
 go_enter Tryz.func129, Tryz.ntmps129
 go_wp2_with fail
 go_loop [5] (fun j => ∃ k : Nat, k ≤ n ∧ j = .int .i64 k ∧ (l.take k).any (Wt.isI i) = false) (fun j => n - (intOf j).toNat)
 case atStart => exact ⟨0, Nat.zero_le _, rfl, by simp⟩
 case round =>
  obtain ⟨k, hk, rfl, he⟩ := hrel
  have HE := Lib.hid he
  clear he
  by_cases hlt : k < n
  ·obtain ⟨b, off, s, rfl, hs, _, _, f0, f1⟩ := Wt.get h hlt (Below.refl w.heap.size w) hh
   have HN := Lib.hid (fun (hq : Wt.isI i s = false) => show (l.take (k + 1)).any (Wt.isI i) = false from by rw [List.take_add_one, List.any_append, HE.out, hs.out]; simp [hq])
   by_cases h2 : s.irq = i
   ·have HF := Lib.hid (findIx_hit HE.out hs.out (show Wt.isI i s = true from by simp [Wt.isI, h2]))
    go_wp2_with fail
    go_ret
    exact ⟨ret_int HF.out.symm, rfl⟩
   ·have HF := Lib.hid (HN.out (by simp [Wt.isI, h2]))
    go_wp2_with fail
    go_round
    case rel => exact ⟨k + 1, by omega, by go_num, HF.out⟩
    case measure => simp [intOf]; omega
  ·go_wp2_with fail
   go_ret
   have he := HE.out
   rw [List.take_of_length_le (by rw [← H.out]; omega)] at he
   exact ⟨ret_int (by simp [findIx, he]), rfl⟩

end Go.Proofs.YtndfmkbpdoohfaaGreat

/- Offering an interrupt: the inner functions and the public ones, in the program and in the reference. Conditions: the inner ones want valid parts and a valid interrupt. -/
namespace Go.Proofs.YtndfmkbpdoohfaaGreat
open Go.RowKit Go.ChangeShapes Go.WideShapes Go.Deep

set_option maxHeartbeats 8000000 in
theorem specOffer_in (vs vw : Value) (ls : List Sl) (lw : List Wt) (i p : Int) (w : World) {lo hi lo2 hi2 : Nat} (h : Rd Sl.cells 3 w lo hi vs ls) (h2 : Rd Wt.cells 2 w lo2 hi2 vw lw) (hh : hi ≤ w.heap.size) (hh2 : hi2 ≤ w.heap.size) (hp : Qu.parts ls lw = true) (hir : inB i 0 7 = true) (hpr : inB p 0 15 = true) :
  Calls Tryz.prog 91 #[.agg #[vs, vw], .int .i64 i, .int .i64 p] w fun e w' => ∃ v1 v2, e = .returned (.agg #[v1, v2]) ∧ Ow Sl.cells 3 93 w' w.heap.size w'.heap.size v1 (Qu.ofP ls lw i p).1 ∧ Ow Wt.cells 2 107 w' w.heap.size w'.heap.size v2 (Qu.ofP ls lw i p).2 ∧ Below w.heap.size w w' := by
 have b0 : Below w.heap.size w ((w.alloc (.cells #[vs, vw] 28)).alloc (.cells #[.slice none 0 0, .slice none 0 0] 28)) := ((Below.refl w.heap.size w).alloc (Nat.le_refl _) _).alloc (by simp) _
 have z0 : ((w.alloc (.cells #[vs, vw] 28)).alloc (.cells #[.slice none 0 0, .slice none 0 0] 28)).heap.size = w.heap.size + 2 := by simp
 have bq := Box.new w #[vs, vw] 28 rfl
 have bR := Box.new (g := w.heap.size + 1) (w.alloc (.cells #[vs, vw] 28)) #[.slice none 0 0, .slice none 0 0] 28 (by simp)
 replace bq := bq.below ((Below.refl _ (w.alloc (.cells #[vs, vw] 28))).alloc (Nat.le_refl _) (.cells #[.slice none 0 0, .slice none 0 0] 28)) bq.lt
 have hs := h.below b0 hh
 have hw := h2.below b0 hh2
 have hv_ := h.form
 have hv2_ := h2.form
 clear h h2
 generalize hwA : ((w.alloc (.cells #[vs, vw] 28)).alloc (.cells #[.slice none 0 0, .slice none 0 0] 28)) = wA at *
 obtain ⟨A0, n0, d0, rfl, _, _, _⟩ := hv_
 obtain ⟨A1, n1, d1, rfl, _, _, _⟩ := hv2_
 have hl1 := Sl.good_len (Qu.parts_get hp).1
 have hl2 := Qu.parts_len hp
 have hl : ls.length ≤ 1048576 := by omega
 have HPP := Lib.hid (Qu.of_parts hp hir hpr)
 have c1 := specFind_b _ ls i _ hs (by omega)
 by_cases hx : 0 ≤ Sl.ix ls i
 ·have HF := Lib.hid (Qu.of_hit (lw := lw) (p := p) hx)
  rw [HF.out] at HPP
  have hd : decide ((0 : Int) ≤ Sl.ix ls i) = true := decide_eq_true hx
  generalize Sl.ix ls i = z at c1 hd
  clear hx hp hir hpr hl1 hl2
  go_enter Tryz.func91, Tryz.ntmps91
  have bq_0 := bq.c0
  have bq_1 := bq.c1
  have bq_z := bq.frozen
  have bq_l := bq.lt
  have bR_0 := bR.c0
  have bR_1 := bR.c1
  have bR_z := bR.frozen
  have bR_l := bR.lt
  go_wp2_with fail
  clear hwA
  clear bq_0 bq_1 bq_z bq_l bR_0 bR_1 bR_z bR_l
  refine (c1).mono ?_; rintro q_ w1 ⟨rfl, b_1⟩
  replace bq := bq.below b_1 bq.lt
  replace bR := bR.below b_1 bR.lt
  replace hs := hs.below b_1 (by omega)
  replace hw := hw.below b_1 (by omega)
  have z_2 := b_1.size
  replace b0 := b0.trans (b_1.mono (by omega))
  clear b_1
  have bq_0 := bq.c0
  have bq_1 := bq.c1
  have bq_z := bq.frozen
  have bq_l := bq.lt
  have bR_0 := bR.c0
  have bR_1 := bR.c1
  have bR_z := bR.frozen
  have bR_l := bR.lt
  go_wp2_with fail
  clear bq_0 bq_1 bq_z bq_l bR_0 bR_1 bR_z bR_l
  refine (specPut_in _ ls i p w1 hs (by omega) hl).mono ?_; rintro q_ w3 ⟨v3, rfl, o3, b_3⟩
  replace bq := bq.below b_3 bq.lt
  replace bR := bR.below b_3 bR.lt
  replace hs := hs.below b_3 (by omega)
  replace hw := hw.below b_3 (by omega)
  have z_4 := b_3.size
  replace b0 := b0.trans (b_3.mono (by omega))
  clear b_3
  obtain ⟨A3, n3, d3, rfl, _, _, _⟩ := o3.rd.form
  have bq_0 := bq.c0
  have bq_1 := bq.c1
  have bq_z := bq.frozen
  have bq_l := bq.lt
  have bR_0 := bR.c0
  have bR_1 := bR.c1
  have bR_z := bR.frozen
  have bR_l := bR.lt
  go_wp2_with fail
  clear bq_0 bq_1 bq_z bq_l bR_0 bR_1 bR_z bR_l
  refine (specSettle_any _ _ (Sl.putR ls i p) lw w3 o3.rd hw (by omega) (by omega) HPP.out).mono ?_; rintro q_ w5 ⟨v5, v6, rfl, o5, o6, b_5⟩
  replace bq := bq.below b_5 bq.lt
  replace bR := bR.below b_5 bR.lt
  replace hs := hs.below b_5 (by omega)
  replace hw := hw.below b_5 (by omega)
  replace o3 := o3.below b_5 (by omega)
  have z_6 := b_5.size
  replace b0 := b0.trans (b_5.mono (by omega))
  clear b_5
  obtain ⟨A5, n5, d5, rfl, _, _, _⟩ := o5.rd.form
  obtain ⟨A6, n6, d6, rfl, _, _, _⟩ := o6.rd.form
  have bq_0 := bq.c0
  have bq_1 := bq.c1
  have bq_z := bq.frozen
  have bq_l := bq.lt
  have bR_0 := bR.c0
  have bR_1 := bR.c1
  have bR_z := bR.frozen
  have bR_l := bR.lt
  go_wp2_with fail
  clear bq_0 bq_1 bq_z bq_l bR_0 bR_1 bR_z bR_l
  generalize hwz : World.setCell (World.setCell _ _ _) _ _ = wz_
  obtain rfl : wz_ = setL w5 (w.heap.size + 1) 0 [.slice A5 n5 d5, .slice A6 n6 d6] := hwz.symm
  clear hwz
  replace bq := bq.other (b := w.heap.size + 1) (by omega) 0 [.slice A5 n5 d5, .slice A6 n6 d6]
  replace hs := hs.away (g := w.heap.size + 1) (by omega) 0 [.slice A5 n5 d5, .slice A6 n6 d6]
  replace hw := hw.away (g := w.heap.size + 1) (by omega) 0 [.slice A5 n5 d5, .slice A6 n6 d6]
  replace o3 := o3.box (g := w.heap.size + 1) bR (by decide) 0 [.slice A5 n5 d5, .slice A6 n6 d6]
  replace o5 := o5.box (g := w.heap.size + 1) bR (by decide) 0 [.slice A5 n5 d5, .slice A6 n6 d6]
  replace o6 := o6.box (g := w.heap.size + 1) bR (by decide) 0 [.slice A5 n5 d5, .slice A6 n6 d6]
  replace b0 := setL_below b0 [.slice A5 n5 d5, .slice A6 n6 d6] (w.heap.size + 1) 0 (by omega)
  have zs_7 : (setL w5 (w.heap.size + 1) 0 [.slice A5 n5 d5, .slice A6 n6 d6]).heap.size = w5.heap.size := setL_size _ _ _ _
  replace bR := bR.setAll [.slice A5 n5 d5, .slice A6 n6 d6] rfl
  generalize setL w5 _ 0 _ = w7 at *
  have u0_ := bR.c0
  have u1_ := bR.c1
  refine bodyPost_ret (by simp only [results, Tryz.results91]; simp [go_sem, u0_, u1_]; rfl) rfl ?_
  exact ⟨_, _, rfl, by rw [Qu.ofP, HF.out]; exact o5.mono (by omega) (by omega), by rw [Qu.ofP, HF.out]; exact o6.mono (by omega) (by omega), b0⟩
 ·have hx2 : Sl.ix ls i < 0 := by omega
  have hd : decide ((0 : Int) ≤ Sl.ix ls i) = false := decide_eq_false hx
  have hy := findIx_nonneg (Wt.isI i) lw
  cases ha : lw.any (Wt.isI i)
  ·have HF := Lib.hid (Qu.of_new (p := p) hx2 ha)
   rw [HF.out] at HPP
   rw [ha] at hy
   have HL := Lib.hid hl2
   generalize Sl.ix ls i = z at c1 hd
   clear hx hx2 ha hp hir hpr hl1 hl2
   go_enter Tryz.func91, Tryz.ntmps91
   have bq_0 := bq.c0
   have bq_1 := bq.c1
   have bq_z := bq.frozen
   have bq_l := bq.lt
   have bR_0 := bR.c0
   have bR_1 := bR.c1
   have bR_z := bR.frozen
   have bR_l := bR.lt
   go_wp2_with fail
   clear hwA
   clear bq_0 bq_1 bq_z bq_l bR_0 bR_1 bR_z bR_l
   refine (c1).mono ?_; rintro q_ w1 ⟨rfl, b_1⟩
   replace bq := bq.below b_1 bq.lt
   replace bR := bR.below b_1 bR.lt
   replace hs := hs.below b_1 (by omega)
   replace hw := hw.below b_1 (by omega)
   have z_2 := b_1.size
   replace b0 := b0.trans (b_1.mono (by omega))
   clear b_1
   have bq_0 := bq.c0
   have bq_1 := bq.c1
   have bq_z := bq.frozen
   have bq_l := bq.lt
   have bR_0 := bR.c0
   have bR_1 := bR.c1
   have bR_z := bR.frozen
   have bR_l := bR.lt
   go_wp2_with fail
   clear bq_0 bq_1 bq_z bq_l bR_0 bR_1 bR_z bR_l
   have c2 := l9Has_any _ lw i w1 hw (by omega)
   generalize findIx (Wt.isI i) lw = y at c2 hy
   refine (c2).mono ?_; rintro q_ w_ ⟨rfl, rfl⟩
   have bq_0 := bq.c0
   have bq_1 := bq.c1
   have bq_z := bq.frozen
   have bq_l := bq.lt
   have bR_0 := bR.c0
   have bR_1 := bR.c1
   have bR_z := bR.frozen
   have bR_l := bR.lt
   go_upto_region 6 with fail
   clear bq_0 bq_1 bq_z bq_l bR_0 bR_1 bR_z bR_l
   refine wp_region_held_drew (S := fun W => Box W (w.heap.size) 28 [.slice A0 n0 d0, .slice A1 n1 d1]) (by kernel_rfl) (show (fun (W : World) => Box W (w.heap.size) 28 [.slice A0 n0 d0, .slice A1 n1 d1]) w1.drew from bq) (fun hHeld => ?_)
   refine wpAnyH_take (i := 0) (v := .pointer (some ⟨w.heap.size, 0, none⟩)) rfl (by kernel_rfl) (by kernel_rfl) (by kernel_rfl) (fun _ _ _ h => h) (Or.inl ⟨by rfl, by intro w hSw; have hS0 := hSw; have y00 := hS0.c0; have y01 := hS0.c1; go_simp⟩) hHeld ?_
   refine wpAnyH_take (i := 1) (v := .slice A0 n0 d0) rfl (by kernel_rfl) (by kernel_rfl) (by kernel_rfl) (fun _ _ _ h => h) (Or.inl ⟨by rfl, by intro w hSw; have hS0 := hSw; have y00 := hS0.c0; have y01 := hS0.c1; go_simp⟩) hHeld ?_
   refine wpAnyH_take (i := 2) (v := .pointer (some ⟨w.heap.size, 1, none⟩)) rfl (by kernel_rfl) (by kernel_rfl) (by kernel_rfl) (fun _ _ _ h => h) (Or.inl ⟨by rfl, by intro w hSw; have hS0 := hSw; have y00 := hS0.c0; have y01 := hS0.c1; go_simp⟩) hHeld ?_
   refine wpAnyH_take (i := 3) (v := .slice A1 n1 d1) rfl (by kernel_rfl) (by kernel_rfl) (by kernel_rfl) (fun _ _ _ h => h) (Or.inl ⟨by rfl, by intro w hSw; have hS0 := hSw; have y00 := hS0.c0; have y01 := hS0.c1; go_simp⟩) hHeld ?_
   refine wpAnyH_take (i := 4) (v := .int .i64 i) rfl (by kernel_rfl) (by kernel_rfl) (by kernel_rfl) (fun _ _ _ h => h) (Or.inl ⟨by rfl, by intro w hSw; have hS0 := hSw; have y00 := hS0.c0; have y01 := hS0.c1; go_simp⟩) hHeld ?_
   refine wpAnyH_take (i := 5) (v := .int .i64 p) rfl (by kernel_rfl) (by kernel_rfl) (by kernel_rfl) (fun _ _ _ h => h) (Or.inl ⟨by rfl, by intro w hSw; have hS0 := hSw; have y00 := hS0.c0; have y01 := hS0.c1; go_simp⟩) hHeld ?_
   refine wpAnyH_take (i := 6) (v := .agg #[.int .i64 i, .int .i64 p]) rfl (by kernel_rfl) (by kernel_rfl) (by kernel_rfl) (fun _ _ _ h => h) (Or.inl ⟨by rfl, by intro w hSw; have hS0 := hSw; have y00 := hS0.c0; have y01 := hS0.c1; go_simp⟩) hHeld ?_
   clear hHeld
   refine held_gen (F := fun W' => Below w1.heap.size w1 W') (Below.refl w1.heap.size w1).drew ?_
   rintro w3 b_3
   replace bq := bq.below b_3 bq.lt
   replace bR := bR.below b_3 bR.lt
   replace hs := hs.below b_3 (by omega)
   replace hw := hw.below b_3 (by omega)
   have z_4 := b_3.size
   replace b0 := b0.trans (b_3.mono (by omega))
   clear b_3
   refine wpAnyH_ready (rs := [7]) (by kernel_rfl) (by decide) ?_
   refine AllReadyH.cons rfl (fun K5 hK5 => ?_) AllReadyH.nil
   go_simp
   refine (specWait_any _ lw ⟨i, p⟩ w3 hw (by omega) (by have := HL.out; omega)).mono ?_; rintro q_ w6 ⟨v3, rfl, o3, b_6⟩
   replace bq := bq.below b_6 bq.lt
   replace bR := bR.below b_6 bR.lt
   replace hs := hs.below b_6 (by omega)
   replace hw := hw.below b_6 (by omega)
   have z_7 := b_6.size
   replace b0 := b0.trans (b_6.mono (by omega))
   clear b_6
   obtain ⟨A3, n3, d3, rfl, _, _, _⟩ := o3.rd.form
   refine hK5.out _ _ bq (fun _ => ?_)
   refine wpAnyH_ready (rs := [8]) (by kernel_rfl) (by decide) ?_
   refine AllReadyH.cons rfl (fun K8 hK8 => ?_) AllReadyH.nil
   go_simp
   refine hK8.out _ _ bq (fun _ => ?_)
   refine wpAnyH_ready (rs := [9]) (by kernel_rfl) (by decide) ?_
   refine AllReadyH.cons rfl (fun K9 hK9 => ?_) AllReadyH.nil
   go_simp
   refine (specSettle_any _ _ ls (Wt.ins lw ⟨i, p⟩) w6 hs o3.rd (by omega) (by omega) HPP.out).mono ?_; rintro q_ w10 ⟨v5, v6, rfl, o5, o6, b_10⟩
   replace bq := bq.below b_10 bq.lt
   replace bR := bR.below b_10 bR.lt
   replace hs := hs.below b_10 (by omega)
   replace hw := hw.below b_10 (by omega)
   replace o3 := o3.below b_10 (by omega)
   have z_11 := b_10.size
   replace b0 := b0.trans (b_10.mono (by omega))
   clear b_10
   obtain ⟨A5, n5, d5, rfl, _, _, _⟩ := o5.rd.form
   obtain ⟨A6, n6, d6, rfl, _, _, _⟩ := o6.rd.form
   refine hK9.out _ _ bq (fun _ => ?_)
   refine wpAnyH_ready (rs := [10]) (by kernel_rfl) (by decide) ?_
   refine AllReadyH.cons rfl (fun K12 hK12 => ?_) AllReadyH.nil
   have bq_0 := bq.c0
   have bq_1 := bq.c1
   have bq_z := bq.frozen
   have bq_l := bq.lt
   have bR_0 := bR.c0
   have bR_1 := bR.c1
   have bR_z := bR.frozen
   have bR_l := bR.lt
   go_simp
   clear bq_0 bq_1 bq_z bq_l bR_0 bR_1 bR_z bR_l
   generalize hwz : World.setCell (World.setCell _ _ _) _ _ = wz_
   obtain rfl : wz_ = setL w10 (w.heap.size + 1) 0 [.slice A5 n5 d5, .slice A6 n6 d6] := hwz.symm
   clear hwz
   replace bq := bq.other (b := w.heap.size + 1) (by omega) 0 [.slice A5 n5 d5, .slice A6 n6 d6]
   replace hs := hs.away (g := w.heap.size + 1) (by omega) 0 [.slice A5 n5 d5, .slice A6 n6 d6]
   replace hw := hw.away (g := w.heap.size + 1) (by omega) 0 [.slice A5 n5 d5, .slice A6 n6 d6]
   replace o3 := o3.box (g := w.heap.size + 1) bR (by decide) 0 [.slice A5 n5 d5, .slice A6 n6 d6]
   replace o5 := o5.box (g := w.heap.size + 1) bR (by decide) 0 [.slice A5 n5 d5, .slice A6 n6 d6]
   replace o6 := o6.box (g := w.heap.size + 1) bR (by decide) 0 [.slice A5 n5 d5, .slice A6 n6 d6]
   replace b0 := setL_below b0 [.slice A5 n5 d5, .slice A6 n6 d6] (w.heap.size + 1) 0 (by omega)
   have zs_13 : (setL w10 (w.heap.size + 1) 0 [.slice A5 n5 d5, .slice A6 n6 d6]).heap.size = w10.heap.size := setL_size _ _ _ _
   replace bR := bR.setAll [.slice A5 n5 d5, .slice A6 n6 d6] rfl
   generalize setL w10 _ 0 _ = w13 at *
   refine hK12.out _ _ bq (fun _ => ?_)
   refine ⟨by kernel_rfl, ?_⟩
   have bq_0 := bq.c0
   have bq_1 := bq.c1
   have bq_z := bq.frozen
   have bq_l := bq.lt
   have bR_0 := bR.c0
   have bR_1 := bR.c1
   have bR_z := bR.frozen
   have bR_l := bR.lt
   go_wp2_with fail
   clear bq_0 bq_1 bq_z bq_l bR_0 bR_1 bR_z bR_l
   have u0_ := bR.c0
   have u1_ := bR.c1
   refine bodyPost_ret (by simp only [results, Tryz.results91]; simp [go_sem, u0_, u1_]; rfl) rfl ?_
   exact ⟨_, _, rfl, by rw [Qu.ofP, HF.out]; exact o5.mono (by omega) (by omega), by rw [Qu.ofP, HF.out]; exact o6.mono (by omega) (by omega), b0⟩
  ·have HF := Lib.hid (Qu.of_had (p := p) hx2 ha)
   rw [HF.out] at HPP
   rw [ha] at hy
   generalize Sl.ix ls i = z at c1 hd
   clear hx hx2 ha hp hir hpr hl1 hl2
   go_enter Tryz.func91, Tryz.ntmps91
   have bq_0 := bq.c0
   have bq_1 := bq.c1
   have bq_z := bq.frozen
   have bq_l := bq.lt
   have bR_0 := bR.c0
   have bR_1 := bR.c1
   have bR_z := bR.frozen
   have bR_l := bR.lt
   go_wp2_with fail
   clear hwA
   clear bq_0 bq_1 bq_z bq_l bR_0 bR_1 bR_z bR_l
   refine (c1).mono ?_; rintro q_ w1 ⟨rfl, b_1⟩
   replace bq := bq.below b_1 bq.lt
   replace bR := bR.below b_1 bR.lt
   replace hs := hs.below b_1 (by omega)
   replace hw := hw.below b_1 (by omega)
   have z_2 := b_1.size
   replace b0 := b0.trans (b_1.mono (by omega))
   clear b_1
   have bq_0 := bq.c0
   have bq_1 := bq.c1
   have bq_z := bq.frozen
   have bq_l := bq.lt
   have bR_0 := bR.c0
   have bR_1 := bR.c1
   have bR_z := bR.frozen
   have bR_l := bR.lt
   go_wp2_with fail
   clear bq_0 bq_1 bq_z bq_l bR_0 bR_1 bR_z bR_l
   have c2 := l9Has_any _ lw i w1 hw (by omega)
   generalize findIx (Wt.isI i) lw = y at c2 hy
   refine (c2).mono ?_; rintro q_ w_ ⟨rfl, rfl⟩
   have bq_0 := bq.c0
   have bq_1 := bq.c1
   have bq_z := bq.frozen
   have bq_l := bq.lt
   have bR_0 := bR.c0
   have bR_1 := bR.c1
   have bR_z := bR.frozen
   have bR_l := bR.lt
   go_wp2_with fail
   clear bq_0 bq_1 bq_z bq_l bR_0 bR_1 bR_z bR_l
   refine (specSettle_any _ _ ls lw w1 hs hw (by omega) (by omega) HPP.out).mono ?_; rintro q_ w3 ⟨v5, v6, rfl, o5, o6, b_3⟩
   replace bq := bq.below b_3 bq.lt
   replace bR := bR.below b_3 bR.lt
   replace hs := hs.below b_3 (by omega)
   replace hw := hw.below b_3 (by omega)
   have z_4 := b_3.size
   replace b0 := b0.trans (b_3.mono (by omega))
   clear b_3
   obtain ⟨A5, n5, d5, rfl, _, _, _⟩ := o5.rd.form
   obtain ⟨A6, n6, d6, rfl, _, _, _⟩ := o6.rd.form
   have bq_0 := bq.c0
   have bq_1 := bq.c1
   have bq_z := bq.frozen
   have bq_l := bq.lt
   have bR_0 := bR.c0
   have bR_1 := bR.c1
   have bR_z := bR.frozen
   have bR_l := bR.lt
   go_wp2_with fail
   clear bq_0 bq_1 bq_z bq_l bR_0 bR_1 bR_z bR_l
   generalize hwz : World.setCell (World.setCell _ _ _) _ _ = wz_
   obtain rfl : wz_ = setL w3 (w.heap.size + 1) 0 [.slice A5 n5 d5, .slice A6 n6 d6] := hwz.symm
   clear hwz
   replace bq := bq.other (b := w.heap.size + 1) (by omega) 0 [.slice A5 n5 d5, .slice A6 n6 d6]
   replace hs := hs.away (g := w.heap.size + 1) (by omega) 0 [.slice A5 n5 d5, .slice A6 n6 d6]
   replace hw := hw.away (g := w.heap.size + 1) (by omega) 0 [.slice A5 n5 d5, .slice A6 n6 d6]
   replace o5 := o5.box (g := w.heap.size + 1) bR (by decide) 0 [.slice A5 n5 d5, .slice A6 n6 d6]
   replace o6 := o6.box (g := w.heap.size + 1) bR (by decide) 0 [.slice A5 n5 d5, .slice A6 n6 d6]
   replace b0 := setL_below b0 [.slice A5 n5 d5, .slice A6 n6 d6] (w.heap.size + 1) 0 (by omega)
   have zs_5 : (setL w3 (w.heap.size + 1) 0 [.slice A5 n5 d5, .slice A6 n6 d6]).heap.size = w3.heap.size := setL_size _ _ _ _
   replace bR := bR.setAll [.slice A5 n5 d5, .slice A6 n6 d6] rfl
   generalize setL w3 _ 0 _ = w5 at *
   have u0_ := bR.c0
   have u1_ := bR.c1
   refine bodyPost_ret (by simp only [results, Tryz.results91]; simp [go_sem, u0_, u1_]; rfl) rfl ?_
   exact ⟨_, _, rfl, by rw [Qu.ofP, HF.out]; exact o5.mono (by omega) (by omega), by rw [Qu.ofP, HF.out]; exact o6.mono (by omega) (by omega), b0⟩
set_option maxHeartbeats 8000000 in
theorem implOffer_in (vs vw : Value) (ls : List Sl) (lw : List Wt) (i p : Int) (w : World) {lo hi lo2 hi2 : Nat} (h : Rd Sl.cells 3 w lo hi vs ls) (h2 : Rd Wt.cells 2 w lo2 hi2 vw lw) (hh : hi ≤ w.heap.size) (hh2 : hi2 ≤ w.heap.size) (hp : Qu.parts ls lw = true) (hir : inB i 0 7 = true) (hpr : inB p 0 15 = true) :
  Calls Tryz.prog 90 #[.agg #[vs, vw], .int .i64 i, .int .i64 p] w fun e w' => ∃ v1 v2, e = .returned (.agg #[v1, v2]) ∧ Ow Sl.cells 3 93 w' w.heap.size w'.heap.size v1 (Qu.ofP ls lw i p).1 ∧ Ow Wt.cells 2 107 w' w.heap.size w'.heap.size v2 (Qu.ofP ls lw i p).2 ∧ Below w.heap.size w w' := by
 have b0 : Below w.heap.size w ((w.alloc (.cells #[vs, vw] 28)).alloc (.cells #[.slice none 0 0, .slice none 0 0] 28)) := ((Below.refl w.heap.size w).alloc (Nat.le_refl _) _).alloc (by simp) _
 have z0 : ((w.alloc (.cells #[vs, vw] 28)).alloc (.cells #[.slice none 0 0, .slice none 0 0] 28)).heap.size = w.heap.size + 2 := by simp
 have bq := Box.new w #[vs, vw] 28 rfl
 have bR := Box.new (g := w.heap.size + 1) (w.alloc (.cells #[vs, vw] 28)) #[.slice none 0 0, .slice none 0 0] 28 (by simp)
 replace bq := bq.below ((Below.refl _ (w.alloc (.cells #[vs, vw] 28))).alloc (Nat.le_refl _) (.cells #[.slice none 0 0, .slice none 0 0] 28)) bq.lt
 have hs := h.below b0 hh
 have hw := h2.below b0 hh2
 have hv_ := h.form
 have hv2_ := h2.form
 clear h h2
 generalize hwA : ((w.alloc (.cells #[vs, vw] 28)).alloc (.cells #[.slice none 0 0, .slice none 0 0] 28)) = wA at *
 obtain ⟨A0, n0, d0, rfl, _, _, _⟩ := hv_
 obtain ⟨A1, n1, d1, rfl, _, _, _⟩ := hv2_
 have hl1 := Sl.good_len (Qu.parts_get hp).1
 have hl2 := Qu.parts_len hp
 have hl : ls.length ≤ 1048576 := by omega
 have HPP := Lib.hid (Qu.of_parts hp hir hpr)
 have HL := Lib.hid hl2
 have c0 := implOwn_any _ _ ls lw _ hs hw (by omega) (by omega) hl (by omega)
 have hy := findIx_neg (Wt.isI i) lw
 have c1 := fun W hs hh => implFind_b (.slice A0 n0 d0) ls i W (lo := lo) (hi := hi) hs hh
 by_cases hx : 0 ≤ Sl.ix ls i
 ·have HF := Lib.hid (Qu.of_hit (lw := lw) (p := p) hx)
  rw [HF.out] at HPP
  have hd : decide ((0 : Int) ≤ Sl.ix ls i) = true := decide_eq_true hx
  generalize Sl.ix ls i = z at c1 hd
  clear hx hp hir hpr hl1 hl2 hy
  go_enter Tryz.func90, Tryz.ntmps90
  have bq_0 := bq.c0
  have bq_1 := bq.c1
  have bq_z := bq.frozen
  have bq_l := bq.lt
  have bR_0 := bR.c0
  have bR_1 := bR.c1
  have bR_z := bR.frozen
  have bR_l := bR.lt
  go_wp2_with fail
  clear hwA
  clear bq_0 bq_1 bq_z bq_l bR_0 bR_1 bR_z bR_l
  refine (c0).mono ?_; rintro q_ w1 ⟨v7, v8, rfl, o7, o8, b_1⟩
  replace bq := bq.below b_1 bq.lt
  replace bR := bR.below b_1 bR.lt
  replace hs := hs.below b_1 (by omega)
  replace hw := hw.below b_1 (by omega)
  have z_2 := b_1.size
  replace b0 := b0.trans (b_1.mono (by omega))
  clear b_1
  obtain ⟨A7, n7, d7, rfl, _, _, _⟩ := o7.rd.form
  obtain ⟨A8, n8, d8, rfl, _, _, _⟩ := o8.rd.form
  have bq_0 := bq.c0
  have bq_1 := bq.c1
  have bq_z := bq.frozen
  have bq_l := bq.lt
  have bR_0 := bR.c0
  have bR_1 := bR.c1
  have bR_z := bR.frozen
  have bR_l := bR.lt
  go_upto_region 2 with fail
  clear bq_0 bq_1 bq_z bq_l bR_0 bR_1 bR_z bR_l
  have b_3 := (Below.refl w1.heap.size w1).alloc (Nat.le_refl _) (.cells #[.slice A7 n7 d7, .slice A8 n8 d8] 28)
  have bo := Box.new w1 #[.slice A7 n7 d7, .slice A8 n8 d8] 28 rfl
  replace bq := bq.below b_3 bq.lt
  replace bR := bR.below b_3 bR.lt
  replace hs := hs.below b_3 (by omega)
  replace hw := hw.below b_3 (by omega)
  replace o7 := o7.below b_3 (by omega)
  replace o8 := o8.below b_3 (by omega)
  have z_4 := b_3.size
  replace b0 := b0.trans (b_3.mono (by omega))
  clear b_3
  generalize w1.alloc _ = w3 at *
  generalize w1.heap.size = g3 at *
  have bq_0 := bq.c0
  have bq_1 := bq.c1
  have bq_z := bq.frozen
  have bq_l := bq.lt
  have bR_0 := bR.c0
  have bR_1 := bR.c1
  have bR_z := bR.frozen
  have bR_l := bR.lt
  have bo_0 := bo.c0
  have bo_1 := bo.c1
  have bo_z := bo.frozen
  have bo_l := bo.lt
  go_wp2_with fail
  clear bq_0 bq_1 bq_z bq_l bR_0 bR_1 bR_z bR_l bo_0 bo_1 bo_z bo_l
  refine (c1 w3 hs (by omega)).mono ?_; rintro q_ w5 ⟨rfl, b_5⟩
  replace bq := bq.below b_5 bq.lt
  replace bR := bR.below b_5 bR.lt
  replace bo := bo.below b_5 bo.lt
  replace hs := hs.below b_5 (by omega)
  replace hw := hw.below b_5 (by omega)
  replace o7 := o7.below b_5 (by omega)
  replace o8 := o8.below b_5 (by omega)
  have z_6 := b_5.size
  replace b0 := b0.trans (b_5.mono (by omega))
  clear b_5
  have bq_0 := bq.c0
  have bq_1 := bq.c1
  have bq_z := bq.frozen
  have bq_l := bq.lt
  have bR_0 := bR.c0
  have bR_1 := bR.c1
  have bR_z := bR.frozen
  have bR_l := bR.lt
  have bo_0 := bo.c0
  have bo_1 := bo.c1
  have bo_z := bo.frozen
  have bo_l := bo.lt
  go_wp2_with fail
  clear bq_0 bq_1 bq_z bq_l bR_0 bR_1 bR_z bR_l bo_0 bo_1 bo_z bo_l
  refine (implPut_in _ ls i p w5 hs (by omega) hl).mono ?_; rintro q_ w7 ⟨v3, rfl, o3, b_7⟩
  replace bq := bq.below b_7 bq.lt
  replace bR := bR.below b_7 bR.lt
  replace bo := bo.below b_7 bo.lt
  replace hs := hs.below b_7 (by omega)
  replace hw := hw.below b_7 (by omega)
  replace o7 := o7.below b_7 (by omega)
  replace o8 := o8.below b_7 (by omega)
  have z_8 := b_7.size
  replace b0 := b0.trans (b_7.mono (by omega))
  clear b_7
  obtain ⟨A3, n3, d3, rfl, _, _, _⟩ := o3.rd.form
  have bq_0 := bq.c0
  have bq_1 := bq.c1
  have bq_z := bq.frozen
  have bq_l := bq.lt
  have bR_0 := bR.c0
  have bR_1 := bR.c1
  have bR_z := bR.frozen
  have bR_l := bR.lt
  have bo_0 := bo.c0
  have bo_1 := bo.c1
  have bo_z := bo.frozen
  have bo_l := bo.lt
  go_upto_region 6 with fail
  clear bq_0 bq_1 bq_z bq_l bR_0 bR_1 bR_z bR_l bo_0 bo_1 bo_z bo_l
  generalize hwz : World.setCell _ _ _ = wz_
  obtain rfl : wz_ = setL w7 (g3) 0 [.slice A3 n3 d3] := hwz.symm
  clear hwz
  replace bq := bq.other (b := g3) (by omega) 0 [.slice A3 n3 d3]
  replace bR := bR.other (b := g3) (by omega) 0 [.slice A3 n3 d3]
  replace hs := hs.away (g := g3) (by omega) 0 [.slice A3 n3 d3]
  replace hw := hw.away (g := g3) (by omega) 0 [.slice A3 n3 d3]
  replace o7 := o7.box (g := g3) bo (by decide) 0 [.slice A3 n3 d3]
  replace o8 := o8.box (g := g3) bo (by decide) 0 [.slice A3 n3 d3]
  replace o3 := o3.box (g := g3) bo (by decide) 0 [.slice A3 n3 d3]
  replace b0 := setL_below b0 [.slice A3 n3 d3] (g3) 0 (by omega)
  have zs_9 : (setL w7 (g3) 0 [.slice A3 n3 d3]).heap.size = w7.heap.size := setL_size _ _ _ _
  replace bo := bo.set1 (j := 0) (.slice A3 n3 d3) (by simp)
  generalize setL w7 _ 0 _ = w9 at *
  have bq_0 := bq.c0
  have bq_1 := bq.c1
  have bq_z := bq.frozen
  have bq_l := bq.lt
  have bR_0 := bR.c0
  have bR_1 := bR.c1
  have bR_z := bR.frozen
  have bR_l := bR.lt
  have bo_0 := bo.c0
  have bo_1 := bo.c1
  have bo_z := bo.frozen
  have bo_l := bo.lt
  go_wp2_with fail
  clear bq_0 bq_1 bq_z bq_l bR_0 bR_1 bR_z bR_l bo_0 bo_1 bo_z bo_l
  refine (implSettle_any _ _ (Sl.putR ls i p) lw w9 o3.rd o8.rd (by omega) (by omega) HPP.out).mono ?_; rintro q_ w10 ⟨v5, v6, rfl, o5, o6, b_10⟩
  replace bq := bq.below b_10 bq.lt
  replace bR := bR.below b_10 bR.lt
  replace bo := bo.below b_10 bo.lt
  replace hs := hs.below b_10 (by omega)
  replace hw := hw.below b_10 (by omega)
  replace o7 := o7.below b_10 (by omega)
  replace o8 := o8.below b_10 (by omega)
  replace o3 := o3.below b_10 (by omega)
  have z_11 := b_10.size
  replace b0 := b0.trans (b_10.mono (by omega))
  clear b_10
  obtain ⟨A5, n5, d5, rfl, _, _, _⟩ := o5.rd.form
  obtain ⟨A6, n6, d6, rfl, _, _, _⟩ := o6.rd.form
  have bq_0 := bq.c0
  have bq_1 := bq.c1
  have bq_z := bq.frozen
  have bq_l := bq.lt
  have bR_0 := bR.c0
  have bR_1 := bR.c1
  have bR_z := bR.frozen
  have bR_l := bR.lt
  have bo_0 := bo.c0
  have bo_1 := bo.c1
  have bo_z := bo.frozen
  have bo_l := bo.lt
  go_wp2_with fail
  clear bq_0 bq_1 bq_z bq_l bR_0 bR_1 bR_z bR_l bo_0 bo_1 bo_z bo_l
  generalize hwz : World.setCell (World.setCell _ _ _) _ _ = wz_
  obtain rfl : wz_ = setL w10 (w.heap.size + 1) 0 [.slice A5 n5 d5, .slice A6 n6 d6] := hwz.symm
  clear hwz
  replace bq := bq.other (b := w.heap.size + 1) (by omega) 0 [.slice A5 n5 d5, .slice A6 n6 d6]
  replace bo := bo.other (b := w.heap.size + 1) (by omega) 0 [.slice A5 n5 d5, .slice A6 n6 d6]
  replace hs := hs.away (g := w.heap.size + 1) (by omega) 0 [.slice A5 n5 d5, .slice A6 n6 d6]
  replace hw := hw.away (g := w.heap.size + 1) (by omega) 0 [.slice A5 n5 d5, .slice A6 n6 d6]
  replace o7 := o7.box (g := w.heap.size + 1) bR (by decide) 0 [.slice A5 n5 d5, .slice A6 n6 d6]
  replace o8 := o8.box (g := w.heap.size + 1) bR (by decide) 0 [.slice A5 n5 d5, .slice A6 n6 d6]
  replace o3 := o3.box (g := w.heap.size + 1) bR (by decide) 0 [.slice A5 n5 d5, .slice A6 n6 d6]
  replace o5 := o5.box (g := w.heap.size + 1) bR (by decide) 0 [.slice A5 n5 d5, .slice A6 n6 d6]
  replace o6 := o6.box (g := w.heap.size + 1) bR (by decide) 0 [.slice A5 n5 d5, .slice A6 n6 d6]
  replace b0 := setL_below b0 [.slice A5 n5 d5, .slice A6 n6 d6] (w.heap.size + 1) 0 (by omega)
  have zs_12 : (setL w10 (w.heap.size + 1) 0 [.slice A5 n5 d5, .slice A6 n6 d6]).heap.size = w10.heap.size := setL_size _ _ _ _
  replace bR := bR.setAll [.slice A5 n5 d5, .slice A6 n6 d6] rfl
  generalize setL w10 _ 0 _ = w12 at *
  have u0_ := bR.c0
  have u1_ := bR.c1
  refine bodyPost_ret (by simp only [results, Tryz.results90]; simp [go_sem, u0_, u1_]; rfl) rfl ?_
  exact ⟨_, _, rfl, by rw [Qu.ofP, HF.out]; exact o5.mono (by omega) (by omega), by rw [Qu.ofP, HF.out]; exact o6.mono (by omega) (by omega), b0⟩
 ·have hx2 : Sl.ix ls i < 0 := by omega
  have hd : decide ((0 : Int) ≤ Sl.ix ls i) = false := decide_eq_false hx
  cases ha : lw.any (Wt.isI i)
  ·have HF := Lib.hid (Qu.of_new (p := p) hx2 ha)
   rw [HF.out] at HPP
   rw [ha] at hy
   generalize Sl.ix ls i = z at c1 hd
   clear hx hx2 ha hp hir hpr hl1 hl2
   go_enter Tryz.func90, Tryz.ntmps90
   have bq_0 := bq.c0
   have bq_1 := bq.c1
   have bq_z := bq.frozen
   have bq_l := bq.lt
   have bR_0 := bR.c0
   have bR_1 := bR.c1
   have bR_z := bR.frozen
   have bR_l := bR.lt
   go_wp2_with fail
   clear hwA
   clear bq_0 bq_1 bq_z bq_l bR_0 bR_1 bR_z bR_l
   refine (c0).mono ?_; rintro q_ w1 ⟨v7, v8, rfl, o7, o8, b_1⟩
   replace bq := bq.below b_1 bq.lt
   replace bR := bR.below b_1 bR.lt
   replace hs := hs.below b_1 (by omega)
   replace hw := hw.below b_1 (by omega)
   have z_2 := b_1.size
   replace b0 := b0.trans (b_1.mono (by omega))
   clear b_1
   obtain ⟨A7, n7, d7, rfl, _, _, _⟩ := o7.rd.form
   obtain ⟨A8, n8, d8, rfl, _, _, _⟩ := o8.rd.form
   have bq_0 := bq.c0
   have bq_1 := bq.c1
   have bq_z := bq.frozen
   have bq_l := bq.lt
   have bR_0 := bR.c0
   have bR_1 := bR.c1
   have bR_z := bR.frozen
   have bR_l := bR.lt
   go_upto_region 2 with fail
   clear bq_0 bq_1 bq_z bq_l bR_0 bR_1 bR_z bR_l
   have b_3 := (Below.refl w1.heap.size w1).alloc (Nat.le_refl _) (.cells #[.slice A7 n7 d7, .slice A8 n8 d8] 28)
   have bo := Box.new w1 #[.slice A7 n7 d7, .slice A8 n8 d8] 28 rfl
   replace bq := bq.below b_3 bq.lt
   replace bR := bR.below b_3 bR.lt
   replace hs := hs.below b_3 (by omega)
   replace hw := hw.below b_3 (by omega)
   replace o7 := o7.below b_3 (by omega)
   replace o8 := o8.below b_3 (by omega)
   have z_4 := b_3.size
   replace b0 := b0.trans (b_3.mono (by omega))
   clear b_3
   generalize w1.alloc _ = w3 at *
   generalize w1.heap.size = g3 at *
   have bq_0 := bq.c0
   have bq_1 := bq.c1
   have bq_z := bq.frozen
   have bq_l := bq.lt
   have bR_0 := bR.c0
   have bR_1 := bR.c1
   have bR_z := bR.frozen
   have bR_l := bR.lt
   have bo_0 := bo.c0
   have bo_1 := bo.c1
   have bo_z := bo.frozen
   have bo_l := bo.lt
   go_wp2_with fail
   clear bq_0 bq_1 bq_z bq_l bR_0 bR_1 bR_z bR_l bo_0 bo_1 bo_z bo_l
   refine (c1 w3 hs (by omega)).mono ?_; rintro q_ w5 ⟨rfl, b_5⟩
   replace bq := bq.below b_5 bq.lt
   replace bR := bR.below b_5 bR.lt
   replace bo := bo.below b_5 bo.lt
   replace hs := hs.below b_5 (by omega)
   replace hw := hw.below b_5 (by omega)
   replace o7 := o7.below b_5 (by omega)
   replace o8 := o8.below b_5 (by omega)
   have z_6 := b_5.size
   replace b0 := b0.trans (b_5.mono (by omega))
   clear b_5
   have bq_0 := bq.c0
   have bq_1 := bq.c1
   have bq_z := bq.frozen
   have bq_l := bq.lt
   have bR_0 := bR.c0
   have bR_1 := bR.c1
   have bR_z := bR.frozen
   have bR_l := bR.lt
   have bo_0 := bo.c0
   have bo_1 := bo.c1
   have bo_z := bo.frozen
   have bo_l := bo.lt
   go_wp2_with fail
   clear bq_0 bq_1 bq_z bq_l bR_0 bR_1 bR_z bR_l bo_0 bo_1 bo_z bo_l
   have c2 := waiterIndex_any _ lw i w5 hw (by omega)
   generalize findIx (Wt.isI i) lw = y at c2 hy
   refine (c2).mono ?_; rintro q_ w7 ⟨rfl, b_7⟩
   replace bq := bq.below b_7 bq.lt
   replace bR := bR.below b_7 bR.lt
   replace bo := bo.below b_7 bo.lt
   replace hs := hs.below b_7 (by omega)
   replace hw := hw.below b_7 (by omega)
   replace o7 := o7.below b_7 (by omega)
   replace o8 := o8.below b_7 (by omega)
   have z_8 := b_7.size
   replace b0 := b0.trans (b_7.mono (by omega))
   clear b_7
   have bq_0 := bq.c0
   have bq_1 := bq.c1
   have bq_z := bq.frozen
   have bq_l := bq.lt
   have bR_0 := bR.c0
   have bR_1 := bR.c1
   have bR_z := bR.frozen
   have bR_l := bR.lt
   have bo_0 := bo.c0
   have bo_1 := bo.c1
   have bo_z := bo.frozen
   have bo_l := bo.lt
   go_wp2_with fail
   clear bq_0 bq_1 bq_z bq_l bR_0 bR_1 bR_z bR_l bo_0 bo_1 bo_z bo_l
   refine (implWait_any _ lw ⟨i, p⟩ w7 hw (by omega) (by have := HL.out; omega)).mono ?_; rintro q_ w9 ⟨v3, rfl, o3, b_9⟩
   replace bq := bq.below b_9 bq.lt
   replace bR := bR.below b_9 bR.lt
   replace bo := bo.below b_9 bo.lt
   replace hs := hs.below b_9 (by omega)
   replace hw := hw.below b_9 (by omega)
   replace o7 := o7.below b_9 (by omega)
   replace o8 := o8.below b_9 (by omega)
   have z_10 := b_9.size
   replace b0 := b0.trans (b_9.mono (by omega))
   clear b_9
   obtain ⟨A3, n3, d3, rfl, _, _, _⟩ := o3.rd.form
   have bq_0 := bq.c0
   have bq_1 := bq.c1
   have bq_z := bq.frozen
   have bq_l := bq.lt
   have bR_0 := bR.c0
   have bR_1 := bR.c1
   have bR_z := bR.frozen
   have bR_l := bR.lt
   have bo_0 := bo.c0
   have bo_1 := bo.c1
   have bo_z := bo.frozen
   have bo_l := bo.lt
   go_upto_region 6 with fail
   clear bq_0 bq_1 bq_z bq_l bR_0 bR_1 bR_z bR_l bo_0 bo_1 bo_z bo_l
   generalize hwz : World.setCell _ _ _ = wz_
   obtain rfl : wz_ = setL w9 (g3) 1 [.slice A3 n3 d3] := hwz.symm
   clear hwz
   replace bq := bq.other (b := g3) (by omega) 1 [.slice A3 n3 d3]
   replace bR := bR.other (b := g3) (by omega) 1 [.slice A3 n3 d3]
   replace hs := hs.away (g := g3) (by omega) 1 [.slice A3 n3 d3]
   replace hw := hw.away (g := g3) (by omega) 1 [.slice A3 n3 d3]
   replace o7 := o7.box (g := g3) bo (by decide) 1 [.slice A3 n3 d3]
   replace o8 := o8.box (g := g3) bo (by decide) 1 [.slice A3 n3 d3]
   replace o3 := o3.box (g := g3) bo (by decide) 1 [.slice A3 n3 d3]
   replace b0 := setL_below b0 [.slice A3 n3 d3] (g3) 1 (by omega)
   have zs_11 : (setL w9 (g3) 1 [.slice A3 n3 d3]).heap.size = w9.heap.size := setL_size _ _ _ _
   replace bo := bo.set1 (j := 1) (.slice A3 n3 d3) (by simp)
   generalize setL w9 _ 1 _ = w11 at *
   have bq_0 := bq.c0
   have bq_1 := bq.c1
   have bq_z := bq.frozen
   have bq_l := bq.lt
   have bR_0 := bR.c0
   have bR_1 := bR.c1
   have bR_z := bR.frozen
   have bR_l := bR.lt
   have bo_0 := bo.c0
   have bo_1 := bo.c1
   have bo_z := bo.frozen
   have bo_l := bo.lt
   go_wp2_with fail
   clear bq_0 bq_1 bq_z bq_l bR_0 bR_1 bR_z bR_l bo_0 bo_1 bo_z bo_l
   refine (implSettle_any _ _ ls (Wt.ins lw ⟨i, p⟩) w11 o7.rd o3.rd (by omega) (by omega) HPP.out).mono ?_; rintro q_ w12 ⟨v5, v6, rfl, o5, o6, b_12⟩
   replace bq := bq.below b_12 bq.lt
   replace bR := bR.below b_12 bR.lt
   replace bo := bo.below b_12 bo.lt
   replace hs := hs.below b_12 (by omega)
   replace hw := hw.below b_12 (by omega)
   replace o7 := o7.below b_12 (by omega)
   replace o8 := o8.below b_12 (by omega)
   replace o3 := o3.below b_12 (by omega)
   have z_13 := b_12.size
   replace b0 := b0.trans (b_12.mono (by omega))
   clear b_12
   obtain ⟨A5, n5, d5, rfl, _, _, _⟩ := o5.rd.form
   obtain ⟨A6, n6, d6, rfl, _, _, _⟩ := o6.rd.form
   have bq_0 := bq.c0
   have bq_1 := bq.c1
   have bq_z := bq.frozen
   have bq_l := bq.lt
   have bR_0 := bR.c0
   have bR_1 := bR.c1
   have bR_z := bR.frozen
   have bR_l := bR.lt
   have bo_0 := bo.c0
   have bo_1 := bo.c1
   have bo_z := bo.frozen
   have bo_l := bo.lt
   go_wp2_with fail
   clear bq_0 bq_1 bq_z bq_l bR_0 bR_1 bR_z bR_l bo_0 bo_1 bo_z bo_l
   generalize hwz : World.setCell (World.setCell _ _ _) _ _ = wz_
   obtain rfl : wz_ = setL w12 (w.heap.size + 1) 0 [.slice A5 n5 d5, .slice A6 n6 d6] := hwz.symm
   clear hwz
   replace bq := bq.other (b := w.heap.size + 1) (by omega) 0 [.slice A5 n5 d5, .slice A6 n6 d6]
   replace bo := bo.other (b := w.heap.size + 1) (by omega) 0 [.slice A5 n5 d5, .slice A6 n6 d6]
   replace hs := hs.away (g := w.heap.size + 1) (by omega) 0 [.slice A5 n5 d5, .slice A6 n6 d6]
   replace hw := hw.away (g := w.heap.size + 1) (by omega) 0 [.slice A5 n5 d5, .slice A6 n6 d6]
   replace o7 := o7.box (g := w.heap.size + 1) bR (by decide) 0 [.slice A5 n5 d5, .slice A6 n6 d6]
   replace o8 := o8.box (g := w.heap.size + 1) bR (by decide) 0 [.slice A5 n5 d5, .slice A6 n6 d6]
   replace o3 := o3.box (g := w.heap.size + 1) bR (by decide) 0 [.slice A5 n5 d5, .slice A6 n6 d6]
   replace o5 := o5.box (g := w.heap.size + 1) bR (by decide) 0 [.slice A5 n5 d5, .slice A6 n6 d6]
   replace o6 := o6.box (g := w.heap.size + 1) bR (by decide) 0 [.slice A5 n5 d5, .slice A6 n6 d6]
   replace b0 := setL_below b0 [.slice A5 n5 d5, .slice A6 n6 d6] (w.heap.size + 1) 0 (by omega)
   have zs_14 : (setL w12 (w.heap.size + 1) 0 [.slice A5 n5 d5, .slice A6 n6 d6]).heap.size = w12.heap.size := setL_size _ _ _ _
   replace bR := bR.setAll [.slice A5 n5 d5, .slice A6 n6 d6] rfl
   generalize setL w12 _ 0 _ = w14 at *
   have u0_ := bR.c0
   have u1_ := bR.c1
   refine bodyPost_ret (by simp only [results, Tryz.results90]; simp [go_sem, u0_, u1_]; rfl) rfl ?_
   exact ⟨_, _, rfl, by rw [Qu.ofP, HF.out]; exact o5.mono (by omega) (by omega), by rw [Qu.ofP, HF.out]; exact o6.mono (by omega) (by omega), b0⟩
  ·have HF := Lib.hid (Qu.of_had (p := p) hx2 ha)
   rw [HF.out] at HPP
   rw [ha] at hy
   generalize Sl.ix ls i = z at c1 hd
   clear hx hx2 ha hp hir hpr hl1 hl2
   go_enter Tryz.func90, Tryz.ntmps90
   have bq_0 := bq.c0
   have bq_1 := bq.c1
   have bq_z := bq.frozen
   have bq_l := bq.lt
   have bR_0 := bR.c0
   have bR_1 := bR.c1
   have bR_z := bR.frozen
   have bR_l := bR.lt
   go_wp2_with fail
   clear hwA
   clear bq_0 bq_1 bq_z bq_l bR_0 bR_1 bR_z bR_l
   refine (c0).mono ?_; rintro q_ w1 ⟨v7, v8, rfl, o7, o8, b_1⟩
   replace bq := bq.below b_1 bq.lt
   replace bR := bR.below b_1 bR.lt
   replace hs := hs.below b_1 (by omega)
   replace hw := hw.below b_1 (by omega)
   have z_2 := b_1.size
   replace b0 := b0.trans (b_1.mono (by omega))
   clear b_1
   obtain ⟨A7, n7, d7, rfl, _, _, _⟩ := o7.rd.form
   obtain ⟨A8, n8, d8, rfl, _, _, _⟩ := o8.rd.form
   have bq_0 := bq.c0
   have bq_1 := bq.c1
   have bq_z := bq.frozen
   have bq_l := bq.lt
   have bR_0 := bR.c0
   have bR_1 := bR.c1
   have bR_z := bR.frozen
   have bR_l := bR.lt
   go_upto_region 2 with fail
   clear bq_0 bq_1 bq_z bq_l bR_0 bR_1 bR_z bR_l
   have b_3 := (Below.refl w1.heap.size w1).alloc (Nat.le_refl _) (.cells #[.slice A7 n7 d7, .slice A8 n8 d8] 28)
   have bo := Box.new w1 #[.slice A7 n7 d7, .slice A8 n8 d8] 28 rfl
   replace bq := bq.below b_3 bq.lt
   replace bR := bR.below b_3 bR.lt
   replace hs := hs.below b_3 (by omega)
   replace hw := hw.below b_3 (by omega)
   replace o7 := o7.below b_3 (by omega)
   replace o8 := o8.below b_3 (by omega)
   have z_4 := b_3.size
   replace b0 := b0.trans (b_3.mono (by omega))
   clear b_3
   generalize w1.alloc _ = w3 at *
   generalize w1.heap.size = g3 at *
   have bq_0 := bq.c0
   have bq_1 := bq.c1
   have bq_z := bq.frozen
   have bq_l := bq.lt
   have bR_0 := bR.c0
   have bR_1 := bR.c1
   have bR_z := bR.frozen
   have bR_l := bR.lt
   have bo_0 := bo.c0
   have bo_1 := bo.c1
   have bo_z := bo.frozen
   have bo_l := bo.lt
   go_wp2_with fail
   clear bq_0 bq_1 bq_z bq_l bR_0 bR_1 bR_z bR_l bo_0 bo_1 bo_z bo_l
   refine (c1 w3 hs (by omega)).mono ?_; rintro q_ w5 ⟨rfl, b_5⟩
   replace bq := bq.below b_5 bq.lt
   replace bR := bR.below b_5 bR.lt
   replace bo := bo.below b_5 bo.lt
   replace hs := hs.below b_5 (by omega)
   replace hw := hw.below b_5 (by omega)
   replace o7 := o7.below b_5 (by omega)
   replace o8 := o8.below b_5 (by omega)
   have z_6 := b_5.size
   replace b0 := b0.trans (b_5.mono (by omega))
   clear b_5
   have bq_0 := bq.c0
   have bq_1 := bq.c1
   have bq_z := bq.frozen
   have bq_l := bq.lt
   have bR_0 := bR.c0
   have bR_1 := bR.c1
   have bR_z := bR.frozen
   have bR_l := bR.lt
   have bo_0 := bo.c0
   have bo_1 := bo.c1
   have bo_z := bo.frozen
   have bo_l := bo.lt
   go_wp2_with fail
   clear bq_0 bq_1 bq_z bq_l bR_0 bR_1 bR_z bR_l bo_0 bo_1 bo_z bo_l
   have c2 := waiterIndex_any _ lw i w5 hw (by omega)
   generalize findIx (Wt.isI i) lw = y at c2 hy
   refine (c2).mono ?_; rintro q_ w7 ⟨rfl, b_7⟩
   replace bq := bq.below b_7 bq.lt
   replace bR := bR.below b_7 bR.lt
   replace bo := bo.below b_7 bo.lt
   replace hs := hs.below b_7 (by omega)
   replace hw := hw.below b_7 (by omega)
   replace o7 := o7.below b_7 (by omega)
   replace o8 := o8.below b_7 (by omega)
   have z_8 := b_7.size
   replace b0 := b0.trans (b_7.mono (by omega))
   clear b_7
   have bq_0 := bq.c0
   have bq_1 := bq.c1
   have bq_z := bq.frozen
   have bq_l := bq.lt
   have bR_0 := bR.c0
   have bR_1 := bR.c1
   have bR_z := bR.frozen
   have bR_l := bR.lt
   have bo_0 := bo.c0
   have bo_1 := bo.c1
   have bo_z := bo.frozen
   have bo_l := bo.lt
   go_wp2_with fail
   clear bq_0 bq_1 bq_z bq_l bR_0 bR_1 bR_z bR_l bo_0 bo_1 bo_z bo_l
   refine (implSettle_any _ _ ls lw w7 o7.rd o8.rd (by omega) (by omega) HPP.out).mono ?_; rintro q_ w9 ⟨v5, v6, rfl, o5, o6, b_9⟩
   replace bq := bq.below b_9 bq.lt
   replace bR := bR.below b_9 bR.lt
   replace bo := bo.below b_9 bo.lt
   replace hs := hs.below b_9 (by omega)
   replace hw := hw.below b_9 (by omega)
   replace o7 := o7.below b_9 (by omega)
   replace o8 := o8.below b_9 (by omega)
   have z_10 := b_9.size
   replace b0 := b0.trans (b_9.mono (by omega))
   clear b_9
   obtain ⟨A5, n5, d5, rfl, _, _, _⟩ := o5.rd.form
   obtain ⟨A6, n6, d6, rfl, _, _, _⟩ := o6.rd.form
   have bq_0 := bq.c0
   have bq_1 := bq.c1
   have bq_z := bq.frozen
   have bq_l := bq.lt
   have bR_0 := bR.c0
   have bR_1 := bR.c1
   have bR_z := bR.frozen
   have bR_l := bR.lt
   have bo_0 := bo.c0
   have bo_1 := bo.c1
   have bo_z := bo.frozen
   have bo_l := bo.lt
   go_wp2_with fail
   clear bq_0 bq_1 bq_z bq_l bR_0 bR_1 bR_z bR_l bo_0 bo_1 bo_z bo_l
   generalize hwz : World.setCell (World.setCell _ _ _) _ _ = wz_
   obtain rfl : wz_ = setL w9 (w.heap.size + 1) 0 [.slice A5 n5 d5, .slice A6 n6 d6] := hwz.symm
   clear hwz
   replace bq := bq.other (b := w.heap.size + 1) (by omega) 0 [.slice A5 n5 d5, .slice A6 n6 d6]
   replace bo := bo.other (b := w.heap.size + 1) (by omega) 0 [.slice A5 n5 d5, .slice A6 n6 d6]
   replace hs := hs.away (g := w.heap.size + 1) (by omega) 0 [.slice A5 n5 d5, .slice A6 n6 d6]
   replace hw := hw.away (g := w.heap.size + 1) (by omega) 0 [.slice A5 n5 d5, .slice A6 n6 d6]
   replace o7 := o7.box (g := w.heap.size + 1) bR (by decide) 0 [.slice A5 n5 d5, .slice A6 n6 d6]
   replace o8 := o8.box (g := w.heap.size + 1) bR (by decide) 0 [.slice A5 n5 d5, .slice A6 n6 d6]
   replace o5 := o5.box (g := w.heap.size + 1) bR (by decide) 0 [.slice A5 n5 d5, .slice A6 n6 d6]
   replace o6 := o6.box (g := w.heap.size + 1) bR (by decide) 0 [.slice A5 n5 d5, .slice A6 n6 d6]
   replace b0 := setL_below b0 [.slice A5 n5 d5, .slice A6 n6 d6] (w.heap.size + 1) 0 (by omega)
   have zs_11 : (setL w9 (w.heap.size + 1) 0 [.slice A5 n5 d5, .slice A6 n6 d6]).heap.size = w9.heap.size := setL_size _ _ _ _
   replace bR := bR.setAll [.slice A5 n5 d5, .slice A6 n6 d6] rfl
   generalize setL w9 _ 0 _ = w11 at *
   have u0_ := bR.c0
   have u1_ := bR.c1
   refine bodyPost_ret (by simp only [results, Tryz.results90]; simp [go_sem, u0_, u1_]; rfl) rfl ?_
   exact ⟨_, _, rfl, by rw [Qu.ofP, HF.out]; exact o5.mono (by omega) (by omega), by rw [Qu.ofP, HF.out]; exact o6.mono (by omega) (by omega), b0⟩

end Go.Proofs.YtndfmkbpdoohfaaGreat

/- Taking the most urgent interrupt of a queue, in the program and in the reference. Condition (the inner functions): valid slots, at most 1048576 waiting interrupts. -/
namespace Go.Proofs.YtndfmkbpdoohfaaGreat
open Go.RowKit Go.ChangeShapes Go.WideShapes Go.Deep

set_option maxHeartbeats 8000000 in
theorem specTakeQ_in (vs vw : Value) (l0 : List Sl) (lw : List Wt) (m : Int) (w : World) {lo hi lo2 hi2 : Nat} (h : Rd Sl.cells 3 w lo hi vs l0) (h2 : Rd Wt.cells 2 w lo2 hi2 vw lw) (hh : hi ≤ w.heap.size) (hh2 : hi2 ≤ w.heap.size) (hg : Sl.good l0 = true) (hl2 : lw.length ≤ 1048576) :
  Calls Tryz.prog 75 #[.agg #[vs, vw], .int .i64 m] w fun e w' => ∃ v1 v2, e = .returned (.tuple #[.agg #[v1, v2], .int .i64 (Sl.tkW l0 m)]) ∧ Ow Sl.cells 3 93 w' w.heap.size w'.heap.size v1 (Sl.tkL l0 m) ∧ Ow Wt.cells 2 107 w' w.heap.size w'.heap.size v2 lw ∧ Below w.heap.size w w' := by
 have b0 : Below w.heap.size w ((w.alloc (.cells #[vs, vw] 28)).alloc (.cells #[.slice none 0 0, .slice none 0 0] 28)) := ((Below.refl w.heap.size w).alloc (Nat.le_refl _) _).alloc (by simp) _
 have z0 : ((w.alloc (.cells #[vs, vw] 28)).alloc (.cells #[.slice none 0 0, .slice none 0 0] 28)).heap.size = w.heap.size + 2 := by simp
 have q0 : ((w.alloc (.cells #[vs, vw] 28)).alloc (.cells #[.slice none 0 0, .slice none 0 0] 28)).cell? ⟨w.heap.size, 0, none⟩ = some vs := by simp
 have q1 : ((w.alloc (.cells #[vs, vw] 28)).alloc (.cells #[.slice none 0 0, .slice none 0 0] 28)).cell? ⟨w.heap.size, 1, none⟩ = some vw := by simp
 have r0 : ((w.alloc (.cells #[vs, vw] 28)).alloc (.cells #[.slice none 0 0, .slice none 0 0] 28)).cell? ⟨w.heap.size + 1, 0, none⟩ = some (.slice none 0 0) := by simp
 have r1 : ((w.alloc (.cells #[vs, vw] 28)).alloc (.cells #[.slice none 0 0, .slice none 0 0] 28)).cell? ⟨w.heap.size + 1, 1, none⟩ = some (.slice none 0 0) := by simp
 have rz : ∀ j, ((w.alloc (.cells #[vs, vw] 28)).alloc (.cells #[.slice none 0 0, .slice none 0 0] 28)).frozen? ⟨w.heap.size + 1, j, none⟩ = false := fun j => froz_new _ _ _ (by simp) j
 have hl : (Sl.tkL l0 m).length ≤ 1048576 := by
  unfold Sl.tkL; split
  ·rw [Sl.tkS_len, Sl.good_len hg]; decide
  ·rw [Sl.good_len hg]; decide
 have c1 := specTake_in vs l0 m _ (h.below b0 hh) (by omega) hg
 have hw := h2.below b0 hh2
 have hv := h.form
 have hv2 := h2.form
 clear h h2 hg
 obtain ⟨A0, n0, d0, rfl, _, _, _⟩ := hv
 obtain ⟨A, n, c, rfl, H, hc, hm⟩ := hv2
 rw [← H.out] at hl2
 generalize Sl.tkL l0 m = ls at *
 generalize Sl.tkW l0 m = irq at *
 go_enter Tryz.func75, Tryz.ntmps75
 go_wp2_with fail
 generalize (w.alloc _).alloc _ = wA at *
 refine c1.mono ?_; rintro e w0 ⟨vz, rfl, hs, b1⟩
 obtain ⟨hc1, hf1⟩ := bcell b1
 replace q0 := (hc1 _ 0 (by omega)).trans q0
 replace q1 := (hc1 _ 1 (by omega)).trans q1
 replace r0 := (hc1 _ 0 (by omega)).trans r0
 replace r1 := (hc1 _ 1 (by omega)).trans r1
 replace rz := fun j => (hf1 _ j (by omega)).trans (rz j)
 replace hw := hw.below b1 (by omega)
 have zz := b1.size
 replace b0 := b0.trans (b1.mono (by omega))
 clear hc1 hf1 c1 b1
 obtain ⟨A1, n1, d1, rfl, H0, hd1, hm1⟩ := hs.form
 rw [← H0.out] at hl
 have hh1 : hi2 ≤ w0.heap.size := by omega
 have zr : w.heap.size + 1 < w0.heap.size := by omega
 have zq : w.heap.size < w0.heap.size := by omega
 obtain ⟨is, his, hzs0, hzs1, hzs2⟩ := info_parts Sl.info
 obtain ⟨iq, hiq, hzq0, hzq1, hzq2⟩ := info_parts Wt.info
 have SH : ∀ W, Below w0.heap.size w0 W → (fun (W : World) => W.cell? ⟨w.heap.size, 0, none⟩ = some (.slice A0 n0 d0) ∧ W.cell? ⟨w.heap.size, 1, none⟩ = some (.slice A n c)) W := fun W hb => ⟨(hb.cell (p := ⟨w.heap.size, 0, none⟩) zq).trans q0, (hb.cell (p := ⟨w.heap.size, 1, none⟩) zq).trans q1⟩
 go_wp2_with fail
 refine wp_region_held_drew (S := fun W => W.cell? ⟨w.heap.size, 0, none⟩ = some (.slice A0 n0 d0) ∧ W.cell? ⟨w.heap.size, 1, none⟩ = some (.slice A n c)) (by kernel_rfl) (SH _ (Below.refl w0.heap.size w0).drew) (fun hHeld => ?_)
 refine wpAnyH_take (i := 1) (v := .slice A1 n1 d1) rfl (by kernel_rfl) (by kernel_rfl) (by kernel_rfl) (fun _ _ _ h => h) (Or.inl ⟨by rfl, by intro w _; go_simp⟩) hHeld ?_
 refine wpAnyH_take (i := 4) (v := .pointer (some ⟨w.heap.size, 1, none⟩)) rfl (by kernel_rfl) (by kernel_rfl) (by kernel_rfl) (fun _ _ _ h => h) (Or.inl ⟨by rfl, by intro w _; go_simp⟩) hHeld ?_
 refine wpAnyH_take (i := 5) (v := .slice A n c) rfl (by kernel_rfl) (by kernel_rfl) (by kernel_rfl) (fun _ _ _ h => h) (Or.inl ⟨by rfl, by intro w hSw; obtain ⟨y0, y1⟩ := hSw; go_simp⟩) hHeld ?_
 refine wpAnyH_take (i := 8) (v := .int .i64 irq) rfl (by kernel_rfl) (by kernel_rfl) (by kernel_rfl) (fun _ _ _ h => h) (Or.inl ⟨by rfl, by intro w _; go_simp⟩) hHeld ?_
 clear hHeld
 refine held_gen (F := fun W' => Below w0.heap.size w0 W') (Below.refl w0.heap.size w0).drew ?_
 rintro W0 b0'
 refine wpAnyH_ready (rs := [0, 3]) (by kernel_rfl) (by decide) ?_
 refine AllReadyH.cons rfl (fun K0 hK0 => ?_) (AllReadyH.cons rfl (fun K0 hK0 => ?_) AllReadyH.nil)
 ·go_simp
  refine hK0.out _ _ (SH _ (b0'.alloc b0'.size (.cells #[] 93))) (fun _ => ?_)
  refine held_gen (F := fun W' => W'.ownsRow w0.heap.size 93 3 (.slice (some ⟨W0.heap.size, 0, none⟩) 0 0) 0 [] ∧ Below w0.heap.size w0 W') ⟨own_empty W0 (base := w0.heap.size) 93 3 b0'.size, b0'.alloc b0'.size (.cells #[] 93)⟩ ?_
  rintro W1 ⟨hS1, b1⟩
  refine wpAnyH_ready (rs := [2, 3]) (by kernel_rfl) (by decide) ?_
  refine AllReadyH.cons rfl (fun K1 hK1 => ?_) (AllReadyH.cons rfl (fun K1 hK1 => ?_) AllReadyH.nil)
  ·refine step_app_rd rfl _ _ 25 rfl w0.heap.size 93 is _ 3 _ Tryz.underlying25 his hzs0 hzs1 hzs2 rfl (by omega) Sl.cells_len Sl.one (.slice (some ⟨W0.heap.size, 0, none⟩) 0 0) 0 [] rfl hS1 (A := A1) (m := n1) (c := d1) (l := ls) rfl (hs.below b1 (Nat.le_refl _)) (by unfold maxLen; omega) (by omega) b1.size ?_
   intro v2 W2 hS2 g2
   have b2 : Below w0.heap.size w0 W2 := b1.grown g2 b1.size (own_ge hS1)
   refine hK1.out _ _ (SH _ b2) (fun _ => ?_)
   refine wpAnyH_ready (rs := [3]) (by kernel_rfl) (by decide) ?_
   refine AllReadyH.cons rfl (fun K2 hK2 => ?_) AllReadyH.nil
   ·go_simp
    refine hK2.out _ _ (SH _ (b2.alloc b2.size (.cells #[] 107))) (fun _ => ?_)
    refine held_gen (F := fun W' => W'.ownsRow w0.heap.size 107 2 (.slice (some ⟨W2.heap.size, 0, none⟩) 0 0) 0 [] ∧ Below w0.heap.size w0 W' ∧ W'.ownsRow w0.heap.size 93 3 v2 (0 + n1) ([] ++ ls.flatMap Sl.cells)) ⟨own_empty W2 (base := w0.heap.size) 107 2 b2.size, b2.alloc b2.size (.cells #[] 107), hS2.alloc (.cells #[] 107)⟩ ?_
    rintro W3 ⟨hQ3, b3, hS3⟩
    refine wpAnyH_ready (rs := [6]) (by kernel_rfl) (by decide) ?_
    refine AllReadyH.cons rfl (fun K3 hK3 => ?_) AllReadyH.nil
    ·refine step_app_rd rfl _ _ 26 rfl w0.heap.size 107 iq _ 2 _ Tryz.underlying26 hiq hzq0 hzq1 hzq2 rfl (by omega) Wt.cells_len Wt.one (.slice (some ⟨W2.heap.size, 0, none⟩) 0 0) 0 [] rfl hQ3 (A := A) (m := n) (c := c) (l := lw) rfl (hw.below b3 hh1) (by unfold maxLen; omega) (by omega) b3.size ?_
     intro v4 W4 hQ4 g4
     have b4 : Below w0.heap.size w0 W4 := b3.grown g4 b3.size (own_ge hQ3)
     refine hK3.out _ _ (SH _ b4) (fun _ => ?_)
     have hS4 := own_kept_type hS3 hQ3 g4 (by decide)
     have oS := Ow.of_own Sl.cells_len hS4 (l := ls) (by simp) (by have := H0.out; omega)
     have oQ := Ow.of_own Wt.cells_len hQ4 (l := lw) (by simp) (by have := H.out; omega)
     obtain ⟨A5, n5, d5, rfl, _, _, _⟩ := oS.rd.form
     obtain ⟨A6, n6, d6, rfl, _, _, _⟩ := oQ.rd.form
     clear hS4 hQ4
     obtain ⟨hc_, hf_⟩ := bcell b4
     have p0 := (hc_ _ 0 zr).trans r0
     have p1 := (hc_ _ 1 zr).trans r1
     have pz := fun j => (hf_ _ j zr).trans (rz j)
     have x0 := (hc_ _ 0 zq).trans q0
     have x1 := (hc_ _ 1 zq).trans q1
     clear hc_ hf_
     refine wpAnyH_ready (rs := [7]) (by kernel_rfl) (by decide) ?_
     refine AllReadyH.cons rfl (fun K8 hK8 => ?_) AllReadyH.nil
     go_simp
     refine hK8.out _ _ ⟨x0, x1⟩ (fun _ => ?_)
     refine wpAnyH_ready (rs := [9]) (by kernel_rfl) (by decide) ?_
     refine AllReadyH.cons rfl (fun K9 hK9 => ?_) AllReadyH.nil
     go_simp
     refine hK9.out _ _ ⟨by simp [go_sem, x0], by simp [go_sem, x1]⟩ (fun _ => ?_)
     refine wpAnyH_ready (rs := [10]) (by kernel_rfl) (by decide) ?_
     refine AllReadyH.cons rfl (fun K10 hK10 => ?_) AllReadyH.nil
     go_simp
     refine hK10.out _ _ ⟨by simp [go_sem, x0], by simp [go_sem, x1]⟩ (fun _ => ?_)
     refine ⟨by kernel_rfl, ?_⟩
     go_wp2_with fail
     generalize hwz : World.setCell (World.setCell _ _ _) _ _ = wz
     have u0 : wz.cell? ⟨w.heap.size + 1, 0, none⟩ = some (.slice A5 n5 d5) := by rw [← hwz]; simp [go_sem, p0]
     have u1 : wz.cell? ⟨w.heap.size + 1, 1, none⟩ = some (.slice A6 n6 d6) := by rw [← hwz]; simp [go_sem, p1]
     obtain rfl : wz = setL W4 (w.heap.size + 1) 0 [.slice A5 n5 d5, .slice A6 n6 d6] := hwz.symm
     have hbz := setL_below (b0.trans (b4.mono (by omega))) [.slice A5 n5 d5, .slice A6 n6 d6] (w.heap.size + 1) 0 (by omega)
     have kk : ∀ q, w0.heap.size ≤ q → (setL W4 (w.heap.size + 1) 0 [.slice A5 n5 d5, .slice A6 n6 d6]).heap[q]? = W4.heap[q]? := fun q hq => setL_other _ _ _ _ q (by omega)
     have o5 := oS.keep (w' := setL W4 (w.heap.size + 1) 0 [.slice A5 n5 d5, .slice A6 n6 d6]) (fun q hq _ _ => kk q hq)
     have o6 := oQ.keep (w' := setL W4 (w.heap.size + 1) 0 [.slice A5 n5 d5, .slice A6 n6 d6]) (fun q hq _ _ => kk q hq)
     have sz : (setL W4 (w.heap.size + 1) 0 [.slice A5 n5 d5, .slice A6 n6 d6]).heap.size = W4.heap.size := setL_size _ _ _ _
     clear hwz kk
     generalize setL W4 (w.heap.size + 1) 0 [.slice A5 n5 d5, .slice A6 n6 d6] = wz at *
     refine bodyPost_ret (by simp only [results, Tryz.results75]; simp [go_sem, u0, u1]; rfl) rfl ?_
     exact ⟨_, _, rfl, o5.mono (by omega) (by omega), o6.mono (by omega) (by omega), hbz⟩
  ·go_simp
   refine hK1.out _ _ (SH _ (b1.alloc b1.size (.cells #[] 107))) (fun _ => ?_)
   refine held_gen (F := fun W' => W'.ownsRow w0.heap.size 107 2 (.slice (some ⟨W1.heap.size, 0, none⟩) 0 0) 0 [] ∧ Below w0.heap.size w0 W' ∧ W'.ownsRow w0.heap.size 93 3 (.slice (some ⟨W0.heap.size, 0, none⟩) 0 0) (0) []) ⟨own_empty W1 (base := w0.heap.size) 107 2 b1.size, b1.alloc b1.size (.cells #[] 107), hS1.alloc (.cells #[] 107)⟩ ?_
   rintro W2 ⟨hQ2, b2, hS2⟩
   refine wpAnyH_ready (rs := [2]) (by kernel_rfl) (by decide) ?_
   refine AllReadyH.cons rfl (fun K2 hK2 => ?_) AllReadyH.nil
   ·refine step_app_rd rfl _ _ 25 rfl w0.heap.size 93 is _ 3 _ Tryz.underlying25 his hzs0 hzs1 hzs2 rfl (by omega) Sl.cells_len Sl.one (.slice (some ⟨W0.heap.size, 0, none⟩) 0 0) 0 [] rfl hS2 (A := A1) (m := n1) (c := d1) (l := ls) rfl (hs.below b2 (Nat.le_refl _)) (by unfold maxLen; omega) (by omega) b2.size ?_
    intro v3 W3 hS3 g3
    have b3 : Below w0.heap.size w0 W3 := b2.grown g3 b2.size (own_ge hS2)
    refine hK2.out _ _ (SH _ b3) (fun _ => ?_)
    have hQ3 := own_kept_type hQ2 hS2 g3 (by decide)
    refine wpAnyH_ready (rs := [6]) (by kernel_rfl) (by decide) ?_
    refine AllReadyH.cons rfl (fun K3 hK3 => ?_) AllReadyH.nil
    ·refine step_app_rd rfl _ _ 26 rfl w0.heap.size 107 iq _ 2 _ Tryz.underlying26 hiq hzq0 hzq1 hzq2 rfl (by omega) Wt.cells_len Wt.one (.slice (some ⟨W1.heap.size, 0, none⟩) 0 0) 0 [] rfl hQ3 (A := A) (m := n) (c := c) (l := lw) rfl (hw.below b3 hh1) (by unfold maxLen; omega) (by omega) b3.size ?_
     intro v4 W4 hQ4 g4
     have b4 : Below w0.heap.size w0 W4 := b3.grown g4 b3.size (own_ge hQ3)
     refine hK3.out _ _ (SH _ b4) (fun _ => ?_)
     have hS4 := own_kept_type hS3 hQ3 g4 (by decide)
     have oS := Ow.of_own Sl.cells_len hS4 (l := ls) (by simp) (by have := H0.out; omega)
     have oQ := Ow.of_own Wt.cells_len hQ4 (l := lw) (by simp) (by have := H.out; omega)
     obtain ⟨A5, n5, d5, rfl, _, _, _⟩ := oS.rd.form
     obtain ⟨A6, n6, d6, rfl, _, _, _⟩ := oQ.rd.form
     clear hS4 hQ4
     obtain ⟨hc_, hf_⟩ := bcell b4
     have p0 := (hc_ _ 0 zr).trans r0
     have p1 := (hc_ _ 1 zr).trans r1
     have pz := fun j => (hf_ _ j zr).trans (rz j)
     have x0 := (hc_ _ 0 zq).trans q0
     have x1 := (hc_ _ 1 zq).trans q1
     clear hc_ hf_
     refine wpAnyH_ready (rs := [7]) (by kernel_rfl) (by decide) ?_
     refine AllReadyH.cons rfl (fun K8 hK8 => ?_) AllReadyH.nil
     go_simp
     refine hK8.out _ _ ⟨x0, x1⟩ (fun _ => ?_)
     refine wpAnyH_ready (rs := [9]) (by kernel_rfl) (by decide) ?_
     refine AllReadyH.cons rfl (fun K9 hK9 => ?_) AllReadyH.nil
     go_simp
     refine hK9.out _ _ ⟨by simp [go_sem, x0], by simp [go_sem, x1]⟩ (fun _ => ?_)
     refine wpAnyH_ready (rs := [10]) (by kernel_rfl) (by decide) ?_
     refine AllReadyH.cons rfl (fun K10 hK10 => ?_) AllReadyH.nil
     go_simp
     refine hK10.out _ _ ⟨by simp [go_sem, x0], by simp [go_sem, x1]⟩ (fun _ => ?_)
     refine ⟨by kernel_rfl, ?_⟩
     go_wp2_with fail
     generalize hwz : World.setCell (World.setCell _ _ _) _ _ = wz
     have u0 : wz.cell? ⟨w.heap.size + 1, 0, none⟩ = some (.slice A5 n5 d5) := by rw [← hwz]; simp [go_sem, p0]
     have u1 : wz.cell? ⟨w.heap.size + 1, 1, none⟩ = some (.slice A6 n6 d6) := by rw [← hwz]; simp [go_sem, p1]
     obtain rfl : wz = setL W4 (w.heap.size + 1) 0 [.slice A5 n5 d5, .slice A6 n6 d6] := hwz.symm
     have hbz := setL_below (b0.trans (b4.mono (by omega))) [.slice A5 n5 d5, .slice A6 n6 d6] (w.heap.size + 1) 0 (by omega)
     have kk : ∀ q, w0.heap.size ≤ q → (setL W4 (w.heap.size + 1) 0 [.slice A5 n5 d5, .slice A6 n6 d6]).heap[q]? = W4.heap[q]? := fun q hq => setL_other _ _ _ _ q (by omega)
     have o5 := oS.keep (w' := setL W4 (w.heap.size + 1) 0 [.slice A5 n5 d5, .slice A6 n6 d6]) (fun q hq _ _ => kk q hq)
     have o6 := oQ.keep (w' := setL W4 (w.heap.size + 1) 0 [.slice A5 n5 d5, .slice A6 n6 d6]) (fun q hq _ _ => kk q hq)
     have sz : (setL W4 (w.heap.size + 1) 0 [.slice A5 n5 d5, .slice A6 n6 d6]).heap.size = W4.heap.size := setL_size _ _ _ _
     clear hwz kk
     generalize setL W4 (w.heap.size + 1) 0 [.slice A5 n5 d5, .slice A6 n6 d6] = wz at *
     refine bodyPost_ret (by simp only [results, Tryz.results75]; simp [go_sem, u0, u1]; rfl) rfl ?_
     exact ⟨_, _, rfl, o5.mono (by omega) (by omega), o6.mono (by omega) (by omega), hbz⟩
 ·go_simp
  refine hK0.out _ _ (SH _ (b0'.alloc b0'.size (.cells #[] 107))) (fun _ => ?_)
  refine held_gen (F := fun W' => W'.ownsRow w0.heap.size 107 2 (.slice (some ⟨W0.heap.size, 0, none⟩) 0 0) 0 [] ∧ Below w0.heap.size w0 W') ⟨own_empty W0 (base := w0.heap.size) 107 2 b0'.size, b0'.alloc b0'.size (.cells #[] 107)⟩ ?_
  rintro W1 ⟨hQ1, b1⟩
  refine wpAnyH_ready (rs := [0]) (by kernel_rfl) (by decide) ?_
  refine AllReadyH.cons rfl (fun K1 hK1 => ?_) AllReadyH.nil
  ·go_simp
   refine hK1.out _ _ (SH _ (b1.alloc b1.size (.cells #[] 93))) (fun _ => ?_)
   refine held_gen (F := fun W' => W'.ownsRow w0.heap.size 93 3 (.slice (some ⟨W1.heap.size, 0, none⟩) 0 0) 0 [] ∧ Below w0.heap.size w0 W' ∧ W'.ownsRow w0.heap.size 107 2 (.slice (some ⟨W0.heap.size, 0, none⟩) 0 0) (0) []) ⟨own_empty W1 (base := w0.heap.size) 93 3 b1.size, b1.alloc b1.size (.cells #[] 93), hQ1.alloc (.cells #[] 93)⟩ ?_
   rintro W2 ⟨hS2, b2, hQ2⟩
   refine wpAnyH_ready (rs := [2]) (by kernel_rfl) (by decide) ?_
   refine AllReadyH.cons rfl (fun K2 hK2 => ?_) AllReadyH.nil
   ·refine step_app_rd rfl _ _ 25 rfl w0.heap.size 93 is _ 3 _ Tryz.underlying25 his hzs0 hzs1 hzs2 rfl (by omega) Sl.cells_len Sl.one (.slice (some ⟨W1.heap.size, 0, none⟩) 0 0) 0 [] rfl hS2 (A := A1) (m := n1) (c := d1) (l := ls) rfl (hs.below b2 (Nat.le_refl _)) (by unfold maxLen; omega) (by omega) b2.size ?_
    intro v3 W3 hS3 g3
    have b3 : Below w0.heap.size w0 W3 := b2.grown g3 b2.size (own_ge hS2)
    refine hK2.out _ _ (SH _ b3) (fun _ => ?_)
    have hQ3 := own_kept_type hQ2 hS2 g3 (by decide)
    refine wpAnyH_ready (rs := [6]) (by kernel_rfl) (by decide) ?_
    refine AllReadyH.cons rfl (fun K3 hK3 => ?_) AllReadyH.nil
    ·refine step_app_rd rfl _ _ 26 rfl w0.heap.size 107 iq _ 2 _ Tryz.underlying26 hiq hzq0 hzq1 hzq2 rfl (by omega) Wt.cells_len Wt.one (.slice (some ⟨W0.heap.size, 0, none⟩) 0 0) 0 [] rfl hQ3 (A := A) (m := n) (c := c) (l := lw) rfl (hw.below b3 hh1) (by unfold maxLen; omega) (by omega) b3.size ?_
     intro v4 W4 hQ4 g4
     have b4 : Below w0.heap.size w0 W4 := b3.grown g4 b3.size (own_ge hQ3)
     refine hK3.out _ _ (SH _ b4) (fun _ => ?_)
     have hS4 := own_kept_type hS3 hQ3 g4 (by decide)
     have oS := Ow.of_own Sl.cells_len hS4 (l := ls) (by simp) (by have := H0.out; omega)
     have oQ := Ow.of_own Wt.cells_len hQ4 (l := lw) (by simp) (by have := H.out; omega)
     obtain ⟨A5, n5, d5, rfl, _, _, _⟩ := oS.rd.form
     obtain ⟨A6, n6, d6, rfl, _, _, _⟩ := oQ.rd.form
     clear hS4 hQ4
     obtain ⟨hc_, hf_⟩ := bcell b4
     have p0 := (hc_ _ 0 zr).trans r0
     have p1 := (hc_ _ 1 zr).trans r1
     have pz := fun j => (hf_ _ j zr).trans (rz j)
     have x0 := (hc_ _ 0 zq).trans q0
     have x1 := (hc_ _ 1 zq).trans q1
     clear hc_ hf_
     refine wpAnyH_ready (rs := [7]) (by kernel_rfl) (by decide) ?_
     refine AllReadyH.cons rfl (fun K8 hK8 => ?_) AllReadyH.nil
     go_simp
     refine hK8.out _ _ ⟨x0, x1⟩ (fun _ => ?_)
     refine wpAnyH_ready (rs := [9]) (by kernel_rfl) (by decide) ?_
     refine AllReadyH.cons rfl (fun K9 hK9 => ?_) AllReadyH.nil
     go_simp
     refine hK9.out _ _ ⟨by simp [go_sem, x0], by simp [go_sem, x1]⟩ (fun _ => ?_)
     refine wpAnyH_ready (rs := [10]) (by kernel_rfl) (by decide) ?_
     refine AllReadyH.cons rfl (fun K10 hK10 => ?_) AllReadyH.nil
     go_simp
     refine hK10.out _ _ ⟨by simp [go_sem, x0], by simp [go_sem, x1]⟩ (fun _ => ?_)
     refine ⟨by kernel_rfl, ?_⟩
     go_wp2_with fail
     generalize hwz : World.setCell (World.setCell _ _ _) _ _ = wz
     have u0 : wz.cell? ⟨w.heap.size + 1, 0, none⟩ = some (.slice A5 n5 d5) := by rw [← hwz]; simp [go_sem, p0]
     have u1 : wz.cell? ⟨w.heap.size + 1, 1, none⟩ = some (.slice A6 n6 d6) := by rw [← hwz]; simp [go_sem, p1]
     obtain rfl : wz = setL W4 (w.heap.size + 1) 0 [.slice A5 n5 d5, .slice A6 n6 d6] := hwz.symm
     have hbz := setL_below (b0.trans (b4.mono (by omega))) [.slice A5 n5 d5, .slice A6 n6 d6] (w.heap.size + 1) 0 (by omega)
     have kk : ∀ q, w0.heap.size ≤ q → (setL W4 (w.heap.size + 1) 0 [.slice A5 n5 d5, .slice A6 n6 d6]).heap[q]? = W4.heap[q]? := fun q hq => setL_other _ _ _ _ q (by omega)
     have o5 := oS.keep (w' := setL W4 (w.heap.size + 1) 0 [.slice A5 n5 d5, .slice A6 n6 d6]) (fun q hq _ _ => kk q hq)
     have o6 := oQ.keep (w' := setL W4 (w.heap.size + 1) 0 [.slice A5 n5 d5, .slice A6 n6 d6]) (fun q hq _ _ => kk q hq)
     have sz : (setL W4 (w.heap.size + 1) 0 [.slice A5 n5 d5, .slice A6 n6 d6]).heap.size = W4.heap.size := setL_size _ _ _ _
     clear hwz kk
     generalize setL W4 (w.heap.size + 1) 0 [.slice A5 n5 d5, .slice A6 n6 d6] = wz at *
     refine bodyPost_ret (by simp only [results, Tryz.results75]; simp [go_sem, u0, u1]; rfl) rfl ?_
     exact ⟨_, _, rfl, o5.mono (by omega) (by omega), o6.mono (by omega) (by omega), hbz⟩
def Qu.tkK (l : List Sl) (m : Int) (lw : List Wt) : List Wt := if Sl.tkOk l m then lw else []
set_option maxHeartbeats 4000000 in
theorem implTakeQ_in (vs vw : Value) (l0 : List Sl) (lw : List Wt) (m : Int) (w : World) {lo hi lo2 hi2 : Nat} (h : Rd Sl.cells 3 w lo hi vs l0) (h2 : Rd Wt.cells 2 w lo2 hi2 vw lw) (hh : hi ≤ w.heap.size) (hh2 : hi2 ≤ w.heap.size) (hg : Sl.good l0 = true) (hl2 : lw.length ≤ 1048576) :
  Calls Tryz.prog 70 #[.agg #[vs, vw], .int .i64 m] w fun e w' => ∃ v1 v2, e = .returned (.tuple #[.agg #[v1, v2], .int .i64 (Sl.tkV l0 m), .bool (Sl.tkOk l0 m)]) ∧ Ow Sl.cells 3 93 w' w.heap.size w'.heap.size v1 (Sl.tkR l0 m) ∧ Ow Wt.cells 2 107 w' w.heap.size w'.heap.size v2 (Qu.tkK l0 m lw) ∧ Below w.heap.size w w' := by
 have b0 : Below w.heap.size w ((w.alloc (.cells #[vs, vw] 28)).alloc (.cells #[.slice none 0 0, .slice none 0 0] 28)) := ((Below.refl w.heap.size w).alloc (Nat.le_refl _) _).alloc (by simp) _
 have z0 : ((w.alloc (.cells #[vs, vw] 28)).alloc (.cells #[.slice none 0 0, .slice none 0 0] 28)).heap.size = w.heap.size + 2 := by simp
 have q0 : ((w.alloc (.cells #[vs, vw] 28)).alloc (.cells #[.slice none 0 0, .slice none 0 0] 28)).cell? ⟨w.heap.size, 0, none⟩ = some vs := by simp
 have q1 : ((w.alloc (.cells #[vs, vw] 28)).alloc (.cells #[.slice none 0 0, .slice none 0 0] 28)).cell? ⟨w.heap.size, 1, none⟩ = some vw := by simp
 have r0 : ((w.alloc (.cells #[vs, vw] 28)).alloc (.cells #[.slice none 0 0, .slice none 0 0] 28)).cell? ⟨w.heap.size + 1, 0, none⟩ = some (.slice none 0 0) := by simp
 have r1 : ((w.alloc (.cells #[vs, vw] 28)).alloc (.cells #[.slice none 0 0, .slice none 0 0] 28)).cell? ⟨w.heap.size + 1, 1, none⟩ = some (.slice none 0 0) := by simp
 have rz : ∀ j, ((w.alloc (.cells #[vs, vw] 28)).alloc (.cells #[.slice none 0 0, .slice none 0 0] 28)).frozen? ⟨w.heap.size + 1, j, none⟩ = false := fun j => froz_new _ _ _ (by simp) j
 have hl : l0.length ≤ 1048576 := by rw [Sl.good_len hg]; decide
 have hs := h.below b0 hh
 have hw := h2.below b0 hh2
 have c1 := implTake_in vs l0 m _ hs (by omega) hg
 have hv := h.form
 have hv2 := h2.form
 clear h h2 hg
 obtain ⟨A0, n0, d0, rfl, _, _, _⟩ := hv
 obtain ⟨A, n, c, rfl, _, _, _⟩ := hv2
 have HK := Lib.hid (show Qu.tkK l0 m lw = if Sl.tkOk l0 m = true then lw else [] from rfl)
 have HR := Lib.hid (show Sl.tkOk l0 m = false → Sl.tkR l0 m = [] ∧ Sl.tkV l0 m = 0 from fun h => ⟨(Sl.tk_no h).2.1, (Sl.tk_no h).2.2.1⟩)
 generalize Qu.tkK l0 m lw = lk at *
 generalize Sl.tkR l0 m = lr at *
 generalize Sl.tkV l0 m = irq at *
 generalize Sl.tkOk l0 m = ok at *
 go_enter Tryz.func70, Tryz.ntmps70
 go_wp2_with fail
 generalize (w.alloc _).alloc _ = wA at *
 refine c1.mono ?_; rintro e w0 ⟨v', rfl, o, b1⟩
 obtain ⟨hc1, hf1⟩ := bcell b1
 replace q0 := (hc1 _ 0 (by omega)).trans q0
 replace q1 := (hc1 _ 1 (by omega)).trans q1
 replace r0 := (hc1 _ 0 (by omega)).trans r0
 replace r1 := (hc1 _ 1 (by omega)).trans r1
 replace rz := fun j => (hf1 _ j (by omega)).trans (rz j)
 replace hs := hs.below b1 (by omega)
 replace hw := hw.below b1 (by omega)
 have zz := b1.size
 replace b0 := b0.trans (b1.mono (by omega))
 clear hc1 hf1 c1 b1
 obtain ⟨A1, n1, d1, rfl, _, _, _⟩ := o.rd.form
 cases ok
 ·obtain rfl : lr = [] := (HR.out rfl).1
  obtain rfl : irq = 0 := (HR.out rfl).2
  obtain rfl : lk = [] := by rw [HK.out]; rfl
  clear HK HR
  go_wp2_with fail
  generalize hwz : World.setCell (World.setCell _ _ _) _ _ = wz
  have u0 : wz.cell? ⟨w.heap.size + 1, 0, none⟩ = some (.slice none 0 0) := by rw [← hwz]; simp [go_sem, r0]
  have u1 : wz.cell? ⟨w.heap.size + 1, 1, none⟩ = some (.slice none 0 0) := by rw [← hwz]; simp [go_sem, r1]
  obtain rfl : wz = setL w0 (w.heap.size + 1) 0 [.slice none 0 0, .slice none 0 0] := hwz.symm
  have hbz := setL_below b0 [.slice none 0 0, .slice none 0 0] (w.heap.size + 1) 0 (by omega)
  clear hwz
  generalize setL w0 (w.heap.size + 1) 0 [.slice none 0 0, .slice none 0 0] = wz at *
  refine bodyPost_ret (by simp only [results, Tryz.results70]; simp [go_sem, u0, u1]; rfl) rfl ?_
  exact ⟨_, _, rfl, Ow.nil_, Ow.nil_, hbz⟩
 ·obtain rfl : lk = lw := by rw [HK.out]; rfl
  clear HK HR
  have c2 := implOwn_any _ _ l0 lk w0 hs hw (by omega) (by omega) hl hl2
  go_wp2_with fail
  refine c2.mono ?_; rintro e w1 ⟨v5, v6, rfl, o5, o6, b2⟩
  obtain ⟨A5, n5, d5, rfl, _, _, _⟩ := o5.rd.form
  clear o5
  obtain ⟨hc1, hf1⟩ := bcell b2
  replace r0 := (hc1 _ 0 (by omega)).trans r0
  replace r1 := (hc1 _ 1 (by omega)).trans r1
  replace rz := fun j => (hf1 _ j (by omega)).trans (rz j)
  replace o := o.below b2 (by omega)
  have zz2 := b2.size
  replace b0 := b0.trans (b2.mono (by omega))
  clear hc1 hf1 c2 b2 hs hw
  obtain ⟨A6, n6, d6, rfl, _, _, _⟩ := o6.rd.form
  have zlt : w.heap.size + 1 < w1.heap.size := by omega
  go_wp2_with fail
  generalize hwz : World.setCell (World.setCell _ _ _) _ _ = wz
  have u0 : wz.cell? ⟨w.heap.size + 1, 0, none⟩ = some (.slice A1 n1 d1) := by rw [← hwz]; simp [go_sem, r0]
  have u1 : wz.cell? ⟨w.heap.size + 1, 1, none⟩ = some (.slice A6 n6 d6) := by rw [← hwz]; simp [go_sem, r1]
  obtain rfl : wz = setL w1 (w.heap.size + 1) 0 [.slice A1 n1 d1, .slice A6 n6 d6] := hwz.symm
  have hbz := setL_below b0 [.slice A1 n1 d1, .slice A6 n6 d6] (w.heap.size + 1) 0 (by omega)
  have kk : ∀ q, wA.heap.size ≤ q → (setL w1 (w.heap.size + 1) 0 [.slice A1 n1 d1, .slice A6 n6 d6]).heap[q]? = w1.heap[q]? := fun q hq => setL_other _ _ _ _ q (by omega)
  have o7 := o.keep (w' := setL w1 (w.heap.size + 1) 0 [.slice A1 n1 d1, .slice A6 n6 d6]) (fun q hq _ _ => kk q hq)
  have o8 := o6.keep (w' := setL w1 (w.heap.size + 1) 0 [.slice A1 n1 d1, .slice A6 n6 d6]) (fun q hq _ _ => kk q (by omega))
  have sz : (setL w1 (w.heap.size + 1) 0 [.slice A1 n1 d1, .slice A6 n6 d6]).heap.size = w1.heap.size := setL_size _ _ _ _
  clear hwz kk
  generalize setL w1 (w.heap.size + 1) 0 [.slice A1 n1 d1, .slice A6 n6 d6] = wz at *
  have bx := (Below.refl wz.heap.size wz).alloc (Nat.le_refl _) (.cells #[.slice A1 n1 d1, .slice A6 n6 d6] 28)
  have v0 := (bx.cell (p := ⟨w.heap.size + 1, 0, none⟩) (by show w.heap.size + 1 < _; omega)).trans u0
  have v1 := (bx.cell (p := ⟨w.heap.size + 1, 1, none⟩) (by show w.heap.size + 1 < _; omega)).trans u1
  have sx := bx.size
  replace o7 := o7.below bx (by omega)
  replace o8 := o8.below bx (by omega)
  replace hbz := hbz.trans (bx.mono (by omega))
  clear bx
  generalize World.alloc wz _ = wy at *
  refine bodyPost_ret (by simp only [results, Tryz.results70]; simp [go_sem, v0, v1]; rfl) rfl ?_
  exact ⟨_, _, rfl, o7.mono (by omega) (by omega), o8.mono (by omega) (by omega), hbz⟩

end Go.Proofs.YtndfmkbpdoohfaaGreat

/- What 'best' finds among slots, when a queue is settled, and that taking keeps it so, in plain terms. No condition. -/
namespace Go.Proofs.YtndfmkbpdoohfaaGreat

theorem Sl.bt_trans {most : Bool} {a b c : Sl} (h : Sl.bt most a b = true) (k : Sl.bt most b c = true) : Sl.bt most a c = true := by
 cases most
 ·simp [Sl.bt] at *
  exact Wt.lt_trans k h
 ·simp [Sl.bt] at *
  exact Wt.lt_trans h k
theorem Sl.bt_irrefl (most : Bool) (a : Sl) : Sl.bt most a a = false := by cases most <;> simp [Sl.bt, Wt.lt_irrefl]
theorem Sl.best_none (most : Bool) (l : List Sl) : ∀ k : Nat, k ≤ l.length → Sl.best most l k = -1 → ∀ (j : Nat) (u : Sl), j < k → l[j]? = some u → ¬ u.state = 1
 | 0, _, _, j, u, hj, _ => absurd hj (by omega)
 | k + 1, hk, h, j, u, hj, hu => by
  obtain ⟨s, hs⟩ : ∃ s, l[k]? = some s := ⟨_, List.getElem?_eq_getElem (show k < l.length by omega)⟩
  rw [Sl.best_succ hs] at h
  by_cases hb : Sl.bestIf most l (Sl.best most l k) s = true
  ·rw [if_pos hb] at h; omega
  ·rw [if_neg hb] at h
   have ih := Sl.best_none most l k (by omega) h
   rcases Nat.lt_or_ge j k with hjk | hjk
   ·exact ih j u hjk hu
   ·obtain rfl : j = k := by omega
    rw [hs] at hu
    injection hu with hu
    subst hu
    intro e
    apply hb
    simp [Sl.bestIf, e, h]
theorem Sl.best_top (most : Bool) (l : List Sl) : ∀ k : Nat, k ≤ l.length → ∀ (i : Nat) (s : Sl), Sl.best most l k = i → l[i]? = some s → ∀ (j : Nat) (u : Sl), j < k → l[j]? = some u → u.state = 1 → Sl.bt most u s = false
 | 0, _, _, _, _, _, j, u, hj, _, _ => absurd hj (by omega)
 | k + 1, hk, i, x, h, hx, j, u, hj, hu, hst => by
  obtain ⟨s, hs⟩ : ∃ s, l[k]? = some s := ⟨_, List.getElem?_eq_getElem (show k < l.length by omega)⟩
  rw [Sl.best_succ hs] at h
  have ih := Sl.best_top most l k (by omega)
  by_cases hb : Sl.bestIf most l (Sl.best most l k) s = true
  ·rw [if_pos hb] at h
   obtain rfl : i = k := by omega
   rw [hs] at hx
   injection hx with hx
   subst hx
   rcases Nat.lt_or_ge j i with hji | hji
   ·rcases Sl.best_bd most l i (by omega) with h1 | ⟨j1, u1, h1, h2, h3, h4⟩
    ·exact absurd hst (Sl.best_none most l i (by omega) h1 j u hji hu)
    ·have h5 := ih j1 u1 h1 h3 j u hji hu hst
     simp only [Sl.bestIf, h1, Bool.and_eq_true, Bool.or_eq_true, decide_eq_true_eq] at hb
     obtain ⟨_, h6 | h6⟩ := hb
     ·omega
     ·rw [show l.getD (j1 : Int).toNat default = u1 from by simp [h3]] at h6
      cases h7 : Sl.bt most u s
      ·rfl
      ·rw [Sl.bt_trans h7 h6] at h5; exact absurd h5 (by decide)
   ·obtain rfl : j = i := by omega
    rw [hs] at hu
    injection hu with hu
    subst hu
    exact Sl.bt_irrefl most s
  ·rw [if_neg hb] at h
   rcases Nat.lt_or_ge j k with hjk | hjk
   ·exact ih i x h hx j u hjk hu hst
   ·obtain rfl : j = k := by omega
    rw [hs] at hu
    injection hu with hu
    subst hu
    cases h7 : Sl.bt most s x
    ·rfl
    ·exfalso
     apply hb
     simp [Sl.bestIf, hst, h, hx, h7]
theorem Sl.bn_none {l : List Sl} (h : Sl.bn l = -1) {s : Sl} (hs : s ∈ l) : ¬ s.state = 1 := by
 obtain ⟨j, hj⟩ := List.getElem?_of_mem hs
 exact Sl.best_none false l l.length (Nat.le_refl _) h j s (List.getElem?_eq_some_iff.1 hj).1 hj
theorem Sl.bn_top {l : List Sl} {k : Nat} {s u : Sl} (h : Sl.bn l = k) (hs : l[k]? = some s) (hu : u ∈ l) (h1 : u.state = 1) : s.wt.lt u.wt = false := by
 obtain ⟨j, hj⟩ := List.getElem?_of_mem hu
 have := Sl.best_top false l l.length (Nat.le_refl _) k s h hs j u (List.getElem?_eq_some_iff.1 hj).1 hj h1
 simpa [Sl.bt] using this
theorem Sl.fx_neg {l : List Sl} : Sl.fx l < 0 ↔ ∀ s ∈ l, ¬ s.state = 0 := by
 rcases find_cases Sl.free l with ⟨h1, h2⟩ | ⟨k, s, h1, h2, h3, h4⟩
 ·rw [Sl.fx, h1]
  rw [List.any_eq_false] at h2
  exact ⟨fun _ s hs => by simpa [Sl.free] using h2 s hs, fun _ => by omega⟩
 ·rw [Sl.fx, h1]
  refine ⟨fun h => absurd h (by omega), fun h => absurd (by simpa [Sl.free] using h4) (h s (List.mem_of_getElem? h3))⟩
theorem Wt.lt_le {x y z : Wt} (h : y.lt x = false) (k : y.lt z = true) : x.lt z = true := by
 rw [Bool.eq_false_iff, ne_eq, Wt.lt_iff] at h
 rw [Wt.lt_iff] at *
 omega
theorem Qu.settled_iff {ls : List Sl} {lw : List Wt} : Qu.settled ls lw = true ↔ ∀ t, lw[0]? = some t → (∀ s ∈ ls, ¬ s.state = 0) ∧ ∀ s ∈ ls, s.state = 1 → s.wt.lt t = true := by
 cases lw with
 | nil => simp [Qu.settled]
 | cons t rest =>
  have h0 : (t :: rest)[0]? = some t := rfl
  rw [Qu.settled_at h0, Bool.and_eq_true, decide_eq_true_eq, Sl.fx_neg, Bool.or_eq_true, decide_eq_true_eq]
  constructor
  ·rintro ⟨h1, h2⟩ t' ht'
   rw [h0] at ht'
   injection ht' with ht'
   subst ht'
   refine ⟨h1, fun s hs hst => ?_⟩
   rcases Sl.bn_cases ls with hb | ⟨k, u, hb, _, hu, _⟩
   ·exact absurd hst (Sl.bn_none hb hs)
   ·rcases h2 with h2 | h2
    ·omega
    ·rw [hb, Sl.at_get hu] at h2
     exact Wt.lt_le (Sl.bn_top hb hu hs hst) h2
  ·intro h
   obtain ⟨h1, h2⟩ := h t h0
   refine ⟨h1, ?_⟩
   rcases Sl.bn_cases ls with hb | ⟨k, u, hb, _, hu, hst⟩
   ·left; omega
   ·right
    rw [hb, Sl.at_get hu]
    exact h2 u (List.mem_of_getElem? hu) hst
theorem Sl.tkOk_get {ls : List Sl} {m : Int} (h : Sl.tkOk ls m = true) : ∃ (k : Nat) (s : Sl), Sl.bx ls = k ∧ k < ls.length ∧ ls[k]? = some s ∧ s.state = 1 ∧ s.prio < m ∧ Sl.tkS ls = ls.set k (Sl.act s) ∧ Sl.tkI ls = s.irq := by
 simp only [Sl.tkOk, Bool.and_eq_true, decide_eq_true_eq] at h
 obtain ⟨h1, h2⟩ := h
 rcases Sl.bx_cases ls with hb | ⟨k, s, hb, hk, hs, hst⟩
 ·omega
 ·rw [hb, Sl.at_get hs] at h2
  exact ⟨k, s, hb, hk, hs, hst, h2, by rw [Sl.tkS, hb, Sl.at_get hs]; rfl, by rw [Sl.tkI, hb, Sl.at_get hs]⟩
theorem Qu.tk_good {ls : List Sl} {lw : List Wt} {m : Int} (h : Qu.good ls lw = true) (hk : Sl.tkOk ls m = true) : Qu.good (Sl.tkS ls) lw = true := by
 obtain ⟨hp, hs⟩ := Qu.good_parts h
 have hp2 := Qu.tk_parts hp hk
 simp only [Qu.good, hp2, Bool.true_and]
 obtain ⟨k, s, _, _, hks, _, _, e, _⟩ := Sl.tkOk_get hk
 rw [Qu.settled_iff] at hs ⊢
 intro t ht
 obtain ⟨h1, h2⟩ := hs t ht
 rw [e]
 refine ⟨fun u hu => ?_, fun u hu hst => ?_⟩
 ·rcases mem_set_or hu with rfl | ⟨j, _, hj⟩
  ·simp [Sl.act]
  ·exact h1 u (List.mem_of_getElem? hj)
 ·rcases mem_set_or hu with rfl | ⟨j, _, hj⟩
  ·simp [Sl.act] at hst
  ·exact h2 u (List.mem_of_getElem? hj) hst

end Go.Proofs.YtndfmkbpdoohfaaGreat
