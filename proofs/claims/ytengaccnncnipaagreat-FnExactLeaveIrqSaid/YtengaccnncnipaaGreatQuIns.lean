/- A waiting interrupt put in its place, in the program and in the reference. Condition: at most 1048576 waiting interrupts. -/
import Derived.Test.YtengaccnncnipaaGreatInsW
import Derived.Test.YtengaccnncnipaaGreatQu
import Derived.Test.YtengaccnncnipaaGreatQuOwn
import Derived.Test.YtengaccnncnipaaGreatSlBest
import Derived.Test.YtengaccnncnipaaGreatQuIn
namespace Go.Proofs.YtengaccnncnipaaGreat
open Go.RowKit Go.ChangeShapes Go.WideShapes Go.Deep

theorem Rd.dropn {α : Type} {cells : α → List Value} {sz : Nat} {w : World} {lo hi n c : Nat} {A : Option Addr} {l : List α} (h : Rd cells sz w lo hi (.slice A n c) l) {k : Nat} (hk : k ≤ n) : Rd cells sz w lo hi (.slice (if c = k then A else Option.map (fun x => x.add (k * sz)) A) (n - k) (c - k)) (l.drop k) := by
  obtain ⟨A', c', hv, h1, h2, h3⟩ := h
  injection hv with e1 e2 e3
  subst e1; subst e2; subst e3
  have hl : (l.drop k).length = l.length - k := by rw [List.length_drop]
  refine ⟨_, c - k, by rw [hl], by omega, by omega, fun hn => ?_⟩
  obtain ⟨b, off, hA, hb1, hb2, hx⟩ := h3 (by omega)
  refine ⟨b, off + k * sz, by rw [if_neg (by omega), hA]; simp [Go.WideShapes.add_plain], hb1, hb2, fun i x hi j u hu => ?_⟩
  rw [List.getElem?_drop] at hi
  have := hx (k + i) x hi j u hu
  rwa [show off + (k + i) * sz + j = off + k * sz + i * sz + j by rw [Nat.add_mul]; omega] at this
theorem step_app_rd2 {α : Type} {cells : α → List Value} {P : Program} {w : World} {ops : Array Oper} {o : Oper} {a : Act} {K : Act → World → Prop} {Q : Exit → Act → World → Prop} {E : Prop} (hgd : o.guard = none) (s x : Operand) (t : TypeId)
    (ho : o.op = .call { callee := .builtin .append, args := #[s, x], argTypes := #[t, t] })
    (base : Nat) (e : TypeId) (i : TypeInfo) (z : Value) (sz bytes : Nat) (ht : P.underlying t = some (.slice e)) (hi : P.info? e = some i) (hz : i.zero = some z)
    (hsize : i.size = sz) (hby : i.bytes = bytes) (hzs : z.cells.size = sz) (hsz : 0 < sz) (hcl : ∀ x, (cells x).length = sz) (h1 : ∀ y u, u ∈ cells y → u.oneCell' = true)
    (v : Value) (n : Nat) (xs : List Value) (hs : a.eval s = v) (hown : w.ownsRow base e sz v n xs) {lo hi' m c : Nat} {A : Option Addr} {l : List α} (hx : a.eval x = .slice A m c) (hr : Rd cells sz w lo hi' (.slice A m c) l)
    (h63 : n + m ≤ maxLen) (hbytes : (n + m) * bytes ≤ 140737488355328) (hbase : base ≤ w.heap.size)
    (h : ∀ v' w', w'.ownsRow base e sz v' (n + m) (xs ++ l.flatMap cells) → w.grownBy w' v.ownBlock → (v'.ownBlock = v.ownBlock ∨ v'.ownBlock = some w.heap.size) → K (a.put o.dst v') w') : if Region.wanted o (yielded ops a.tmps) = true then Oper.wp P o a w K Q else E := by
  have hw : Region.wanted o (yielded ops a.tmps) = true := by simp [Region.wanted, hgd]
  rw [if_pos hw]
  have hk : ∃ v' w', (Builtin.append_ #[t, t] o.type #[v, .slice A m c]).run P w = .ok v' w' ∧ w'.ownsRow base e sz v' (n + m) (xs ++ l.flatMap cells) ∧ w.grownBy w' v.ownBlock ∧ (v'.ownBlock = v.ownBlock ∨ v'.ownBlock = some w.heap.size) := by
    obtain ⟨A', c', hv, hc, hm, hcell⟩ := hr
    injection hv with e1 e2 e3
    subst e1; subst e2; subst e3
    rcases A with _ | ad
    · have hl : l = [] := by
        rcases Nat.eq_zero_or_pos l.length with h0 | h0
        · exact List.eq_nil_of_length_eq_zero h0
        · obtain ⟨b, off, hA, _⟩ := hcell h0
          cases hA
      subst hl
      refine ⟨v, w, ?_, by simpa using hown, World.grownBy.refl w _, .inl rfl⟩
      rcases hown.2 with ⟨rfl, rfl⟩ | ⟨g, cap, cur, rfl, _, _, hnc, _⟩
      · simp [Builtin.append_, run_underlying ht, sizeOf, typeInfo, hi, Builtin.lenOf, Builtin.firstCells]
      · simp [Builtin.append_, run_underlying ht, sizeOf, typeInfo, hi, Builtin.lenOf, Builtin.firstCells, hnc, storeCells]
    · have hnews : ∀ j u, (l.flatMap cells)[j]? = some u → w.cell? (ad.add j) = some u := by
        intro j u hu
        obtain ⟨k, y, i', hk, hy, rfl⟩ := flat_inv hcl l j u hu
        have hlt := (List.getElem?_eq_some_iff.1 hk).1
        obtain ⟨b, off, hA, _, _, h⟩ := hcell (by omega)
        injection hA with hA
        subst hA
        rw [Go.WideShapes.add_plain, ← Nat.add_assoc]
        exact h k y hk i' u hy
      obtain ⟨v', w', hrun, h2, h3, _, h5⟩ := run_append_own_at (P := P) w base t o.type e i z sz bytes ht hi hz hsize hby hzs hsz v n xs hown ad l.length c (l.flatMap cells) (flat_len hcl l) hnews
        (fun u hu => by obtain ⟨y, _, hy⟩ := List.mem_flatMap.1 hu; exact h1 y u hy) h63 hbytes hbase
      exact ⟨v', w', hrun, h2, h3, h5⟩
  obtain ⟨v', w', hrun, h2, h3, h4⟩ := hk
  unfold Oper.wp execOp
  simp only [ho, resolve, invoke, builtin, Sem.run_bind, Sem.run_pure, Result.andThen_ok, List.map_toArray, List.map_cons, List.map_nil, hs, hx, hrun]
  exact h v' w' h2 h3 h4
theorem own_lt {w : World} {base n sz : Nat} {E : TypeId} {v : Value} {xs : List Value} (h : w.ownsRow base E sz v n xs) (g : Nat) (hg : v.ownBlock = some g) : g < w.heap.size := by
  rcases h.2 with ⟨rfl, _⟩ | ⟨g', cap, cur, rfl, _, hh, _⟩
  · simp [Value.ownBlock] at hg
  · simp [Value.ownBlock] at hg
    subst hg
    exact (Array.getElem?_eq_some_iff.1 hh).1
theorem dropA_none (k c s : Nat) : (if c = k then (none : Option Addr) else Option.map (fun x : Addr => x.add (k * s)) none) = none := by split <;> rfl
theorem dropA_some (k c s b off : Nat) : (if c = k then (some ⟨b, off, none⟩ : Option Addr) else Option.map (fun x : Addr => x.add (k * s)) (some ⟨b, off, none⟩)) = if c = k then (some ⟨b, off, none⟩ : Option Addr) else some ⟨b, off + k * s, none⟩ := by split <;> simp [Go.WideShapes.add_plain]

set_option maxHeartbeats 8000000 in
theorem specWait_any (v : Value) (l : List Wt) (x : Wt) (w : World) {lo hi : Nat} (h : Rd Wt.cells 2 w lo hi v l) (hh : hi ≤ w.heap.size) (hl : l.length ≤ 1048576) :
    Calls Tryz.prog 148 #[v, .agg #[.int .i64 x.irq, .int .i64 x.prio]] w fun e w' => ∃ v', e = .returned v' ∧ Ow Wt.cells 2 134 w' w.heap.size w'.heap.size v' (Wt.ins l x) ∧ Below w.heap.size w w' := by
  have bW : Below w.heap.size w (w.alloc (.cells #[.int .i64 x.irq, .int .i64 x.prio] 134)) := (Below.refl w.heap.size w).alloc (Nat.le_refl _) _
  have z0 : (w.alloc (.cells #[.int .i64 x.irq, .int .i64 x.prio] 134)).heap.size = w.heap.size + 1 := by simp
  have q0 : (w.alloc (.cells #[.int .i64 x.irq, .int .i64 x.prio] 134)).cell? ⟨w.heap.size, 0, none⟩ = some (.int .i64 x.irq) := by simp
  have q1 : (w.alloc (.cells #[.int .i64 x.irq, .int .i64 x.prio] 134)).cell? ⟨w.heap.size, 1, none⟩ = some (.int .i64 x.prio) := by simp
  have hrd := h.below bW hh
  replace hh : hi ≤ (w.alloc (.cells #[.int .i64 x.irq, .int .i64 x.prio] 134)).heap.size := by omega
  obtain ⟨A, n, c, rfl, H, hc, hm⟩ := h.form
  have hn : n ≤ 1048576 := by rw [H.out]; exact hl
  clear h hl
  obtain ⟨i0, hi0, hz0, hz1, hz2⟩ := info_parts Wt.info
  go_enter Tryz.func148, Tryz.ntmps148
  go_wp2_with fail
  generalize w.alloc _ = wA at *
  go_loopw [5] (fun q wr => ∃ k : Nat, q = .int .i64 k ∧ k ≤ n ∧ Below wA.heap.size wA wr ∧ Hid (∀ (j : Nat) (y : Wt), j < k → l[j]? = some y → y.lt x = true)) (fun q _ => n - (intOf q).toNat)
  case atStart => exact ⟨0, rfl, Nat.zero_le _, Below.refl _ _, Lib.hid (fun j y hj => by omega)⟩
  case round =>
    obtain ⟨k, rfl, hkn, hb, HJ⟩ := hrel
    replace hrd := hrd.below hb hh
    replace q0 := (hb.cell (p := ⟨w.heap.size, 0, none⟩) (by show w.heap.size < _; omega)).trans q0
    replace q1 := (hb.cell (p := ⟨w.heap.size, 1, none⟩) (by show w.heap.size < _; omega)).trans q1
    have zz := hb.size
    by_cases hlt : k < n
    · have hd : decide ((k : Int) < (n : Int)) = true := decide_eq_true (by omega)
      obtain ⟨b, off, y, rfl, hy, _, hbl, f0, f1⟩ := Wt.get hrd hlt (Below.refl wr.heap.size wr) (by omega)
      have hik : (k : Int) < (n : Int) := by omega
      have c6 := fun W => l8Less_any y.prio y.irq x.prio x.irq W
      cases hq : Wt.lt ⟨y.irq, y.prio⟩ ⟨x.irq, x.prio⟩
      · rw [hq] at c6
        have HQ := Lib.hid (show Wt.pos x l = k from Wt.pos_eq x l k (by rw [← H.out]; exact hkn) HJ.out (fun z hz => by rw [hy.out] at hz; obtain rfl := Option.some.inj hz; exact hq))
        clear hq HJ
        go_wp2_with fail
        go_quiet ((go_at_call 171; refine Calls.quiet_of_same ((c6 _).mono fun _ _ h => ⟨h.1, h.2.symm⟩)))
        go_wp2_with fail
        have hbn := below_drewN (bW.trans (hb.mono (by omega))) nq
        have hrn := hrd.drewN nq
        have q0n : (wr.drewN nq).cell? ⟨w.heap.size, 0, none⟩ = some (.int .i64 x.irq) := q0
        have q1n : (wr.drewN nq).cell? ⟨w.heap.size, 1, none⟩ = some (.int .i64 x.prio) := q1
        have zn : wr.heap.size = (wr.drewN nq).heap.size := rfl
        rw [zn] at zz
        clear bW hrd q0 q1 f0 f1 hb c6 hd zn
        generalize wr.drewN nq = w0 at hbn hrn q0n q1n zz ⊢
        have bW := hbn; have hrd := hrn; have q0 := q0n; have q1 := q1n
        clear hbn hrn q0n q1n
        replace hh : hi ≤ w0.heap.size := by omega
        have zq : w.heap.size < w0.heap.size := by omega
        have hkc : k ≤ c := by omega
        have hkrd := hrd.take_ hkn
        have hdrd := hrd.dropn hkn
        rw [dropA_some] at hdrd
        have SH : ∀ W, Below w0.heap.size w0 W → (fun (W : World) => W.cell? ⟨w.heap.size, 0, none⟩ = some (.int .i64 x.irq) ∧ W.cell? ⟨w.heap.size, 1, none⟩ = some (.int .i64 x.prio)) W := fun W hb => ⟨(hb.cell (p := ⟨w.heap.size, 0, none⟩) zq).trans q0, (hb.cell (p := ⟨w.heap.size, 1, none⟩) zq).trans q1⟩
        refine wp_region_held_drew (S := fun W => W.cell? ⟨w.heap.size, 0, none⟩ = some (.int .i64 x.irq) ∧ W.cell? ⟨w.heap.size, 1, none⟩ = some (.int .i64 x.prio)) (by kernel_rfl) (SH _ (Below.refl w0.heap.size w0).drew) (fun hHeld => ?_)
        refine wpAnyH_take (i := 1) (v := .slice (some ⟨b, off, none⟩) n c) rfl (by kernel_rfl) (by kernel_rfl) (by kernel_rfl) (fun _ _ _ h => h) (Or.inl ⟨by rfl, by intro w hSw; obtain ⟨y0, y1⟩ := hSw; go_simp⟩) hHeld ?_
        refine wpAnyH_take (i := 2) (v := .int .i64 k) rfl (by kernel_rfl) (by kernel_rfl) (by kernel_rfl) (fun _ _ _ h => h) (Or.inl ⟨by rfl, by intro w hSw; obtain ⟨y0, y1⟩ := hSw; go_simp⟩) hHeld ?_
        refine wpAnyH_take (i := 3) (v := .slice (some ⟨b, off, none⟩) k c) rfl (by kernel_rfl) (by kernel_rfl) (by kernel_rfl) (fun _ _ _ h => h) (Or.inl ⟨by rfl, by intro w hSw; obtain ⟨y0, y1⟩ := hSw; go_simp⟩) hHeld ?_
        refine wpAnyH_take (i := 5) (v := .agg #[.int .i64 x.irq, .int .i64 x.prio]) rfl (by kernel_rfl) (by kernel_rfl) (by kernel_rfl) (fun _ _ _ h => h) (Or.inl ⟨by rfl, by intro w hSw; obtain ⟨y0, y1⟩ := hSw; go_simp⟩) hHeld ?_
        refine wpAnyH_take (i := 8) (v := .slice (some ⟨b, off, none⟩) n c) rfl (by kernel_rfl) (by kernel_rfl) (by kernel_rfl) (fun _ _ _ h => h) (Or.inl ⟨by rfl, by intro w hSw; obtain ⟨y0, y1⟩ := hSw; go_simp⟩) hHeld ?_
        refine wpAnyH_take (i := 9) (v := .int .i64 k) rfl (by kernel_rfl) (by kernel_rfl) (by kernel_rfl) (fun _ _ _ h => h) (Or.inl ⟨by rfl, by intro w hSw; obtain ⟨y0, y1⟩ := hSw; go_simp⟩) hHeld ?_
        refine wpAnyH_take (i := 10) (v := .slice (if c = k then (some ⟨b, off, none⟩ : Option Addr) else some ⟨b, off + k * 2, none⟩) (n - k) (c - k)) rfl (by kernel_rfl) (by kernel_rfl) (by kernel_rfl) (fun _ _ _ h => h) (Or.inl ⟨by rfl, by intro w hSw; obtain ⟨y0, y1⟩ := hSw; go_simp⟩) hHeld ?_
        clear hHeld
        generalize (if c = k then (some ⟨b, off, none⟩ : Option Addr) else some ⟨b, off + k * 2, none⟩) = B0 at hdrd ⊢
        refine held_gen (F := fun W' => Below w0.heap.size w0 W') (Below.refl w0.heap.size w0).drew ?_
        rintro W0 b0'
        refine wpAnyH_ready (rs := [0, 6]) (by kernel_rfl) (by decide) ?_
        refine AllReadyH.cons rfl (fun K0 hK0 => ?_) (AllReadyH.cons rfl (fun K0 hK0 => ?_) AllReadyH.nil)
        · go_simp
          refine hK0.out _ _ (SH _ (b0'.alloc b0'.size (.cells #[] 134))) (fun _ => ?_)
          obtain ⟨gS, hgS⟩ : ∃ g, g = W0.heap.size := ⟨_, rfl⟩
          have zgS : w0.heap.size ≤ gS := by rw [hgS]; exact b0'.size
          rw [← hgS]
          refine held_gen (F := fun W' => Below w0.heap.size w0 W' ∧ W'.ownsRow w0.heap.size 134 2 (.slice (some ⟨gS, 0, none⟩) 0 0) 0 [] ∧ gS < W'.heap.size) ⟨b0'.alloc b0'.size (.cells #[] 134), own_empty_at W0 (g := gS) 134 2 hgS b0'.size, by simp [hgS]⟩ ?_
          clear hgS
          rintro W1 ⟨b1, hS1, lS1⟩
          refine wpAnyH_ready (rs := [4, 6]) (by kernel_rfl) (by decide) ?_
          refine AllReadyH.cons rfl (fun K1 hK1 => ?_) (AllReadyH.cons rfl (fun K1 hK1 => ?_) AllReadyH.nil)
          · refine step_app_rd rfl _ _ 31 rfl w0.heap.size 134 i0 _ 2 _ Tryz.underlying31 hi0 hz0 hz1 hz2 rfl (by omega) Wt.cells_len Wt.one (.slice (some ⟨gS, 0, none⟩) 0 0) (0) [] rfl hS1 (A := some ⟨b, off, none⟩) (m := k) (c := c) (l := (l.take k)) rfl (hkrd.below b1 hh) (by unfold maxLen; omega) (by omega) b1.size ?_
            intro v2 W2 hS2 g2
            have b2 : Below w0.heap.size w0 W2 := b1.grown g2 b1.size (own_ge hS1)
            refine hK1.out _ _ (SH _ b2) (fun _ => ?_)
            refine wpAnyH_ready (rs := [6]) (by kernel_rfl) (by decide) ?_
            refine AllReadyH.cons rfl (fun K2 hK2 => ?_) AllReadyH.nil
            · go_simp
              refine hK2.out _ _ (SH _ (b2.alloc b2.size (.cells #[.int .i64 x.irq, .int .i64 x.prio] 134))) (fun _ => ?_)
              obtain ⟨gX, hgX⟩ : ∃ g, g = W2.heap.size := ⟨_, rfl⟩
              have zgX : w0.heap.size ≤ gX := by rw [hgX]; exact b2.size
              rw [← hgX]
              refine held_gen (F := fun W' => Below w0.heap.size w0 W' ∧ (∀ (j : Nat) (u : Value), (Wt.cells x)[j]? = some u → W'.cell? ⟨gX, j, none⟩ = some u) ∧ W'.heap[gX]? = some (.cells #[.int .i64 x.irq, .int .i64 x.prio] 134 (0, 0)) ∧ gX < W'.heap.size ∧ W'.ownsRow w0.heap.size 134 2 v2 (0 + k) ([] ++ (l.take k).flatMap Wt.cells) ∧ (∀ g, v2.ownBlock = some g → g ≠ gX)) ⟨b2.alloc b2.size (.cells #[.int .i64 x.irq, .int .i64 x.prio] 134), fun j u hu => cell_new W2 _ _ hgX (by simpa [Wt.cells] using hu), by rw [hgX]; exact heap_alloc_new _ _, by simp [hgX], hS2.alloc (.cells #[.int .i64 x.irq, .int .i64 x.prio] 134), fun g hg e => by have := own_lt hS2 g hg; omega⟩ ?_
              clear hgX
              rintro W3 ⟨b3, hX3, lH3, lX3, hS3, lS3⟩
              refine wpAnyH_ready (rs := [7]) (by kernel_rfl) (by decide) ?_
              refine AllReadyH.cons rfl (fun K3 hK3 => ?_) AllReadyH.nil
              · refine step_app_rd rfl _ _ 31 rfl w0.heap.size 134 i0 _ 2 _ Tryz.underlying31 hi0 hz0 hz1 hz2 rfl (by omega) Wt.cells_len Wt.one v2 (0 + k) ([] ++ (l.take k).flatMap Wt.cells) rfl hS3 (A := some ⟨gX, 0, none⟩) (m := 1) (c := 1) (l := [x]) rfl (rd_one hX3) (by unfold maxLen; omega) (by omega) b3.size ?_
                intro v4 W4 hS4 g4
                have b4 : Below w0.heap.size w0 W4 := b3.grown g4 b3.size (own_ge hS3)
                refine hK3.out _ _ (SH _ b4) (fun _ => ?_)
                refine wpAnyH_ready (rs := [11]) (by kernel_rfl) (by decide) ?_
                refine AllReadyH.cons rfl (fun K4 hK4 => ?_) AllReadyH.nil
                · refine step_app_rd rfl _ _ 31 rfl w0.heap.size 134 i0 _ 2 _ Tryz.underlying31 hi0 hz0 hz1 hz2 rfl (by omega) Wt.cells_len Wt.one v4 (0 + k + 1) (([] ++ (l.take k).flatMap Wt.cells) ++ [x].flatMap Wt.cells) rfl hS4 (A := B0) (m := n - k) (c := c - k) (l := (l.drop k)) rfl (hdrd.below b4 hh) (by unfold maxLen; omega) (by omega) b4.size ?_
                  intro v5 W5 hS5 g5
                  have b5 : Below w0.heap.size w0 W5 := b4.grown g5 b4.size (own_ge hS4)
                  refine hK4.out _ _ (SH _ b5) (fun _ => ?_)
                  refine wpAnyH_ready (rs := [12]) (by kernel_rfl) (by decide) ?_
                  refine AllReadyH.cons rfl (fun K5 hK5 => ?_) AllReadyH.nil
                  · go_simp
                    refine hK5.out _ _ (SH _ b5) (fun _ => ?_)
                    refine ⟨by kernel_rfl, ?_⟩
                    go_wp2_with fail
                    go_ret
                    have oS := Ow.of_own Wt.cells_len hS5 (l := Wt.ins l x) (by rw [Wt.ins, HQ.out]; simp) (by rw [Wt.ins_len]; have := H.out; omega)
                    exact ⟨_, rfl, oS.mono bW.size (Nat.le_refl _), bW.trans (b5.mono bW.size)⟩
          · go_simp
            refine hK1.out _ _ (SH _ (b1.alloc b1.size (.cells #[.int .i64 x.irq, .int .i64 x.prio] 134))) (fun _ => ?_)
            obtain ⟨gX, hgX⟩ : ∃ g, g = W1.heap.size := ⟨_, rfl⟩
            have zgX : w0.heap.size ≤ gX := by rw [hgX]; exact b1.size
            have gne : gX ≠ gS := by have := lS1; omega
            rw [← hgX]
            refine held_gen (F := fun W' => Below w0.heap.size w0 W' ∧ (∀ (j : Nat) (u : Value), (Wt.cells x)[j]? = some u → W'.cell? ⟨gX, j, none⟩ = some u) ∧ W'.heap[gX]? = some (.cells #[.int .i64 x.irq, .int .i64 x.prio] 134 (0, 0)) ∧ gX < W'.heap.size ∧ W'.ownsRow w0.heap.size 134 2 (.slice (some ⟨gS, 0, none⟩) 0 0) 0 [] ∧ gS < W'.heap.size) ⟨b1.alloc b1.size (.cells #[.int .i64 x.irq, .int .i64 x.prio] 134), fun j u hu => cell_new W1 _ _ hgX (by simpa [Wt.cells] using hu), by rw [hgX]; exact heap_alloc_new _ _, by simp [hgX], hS1.alloc (.cells #[.int .i64 x.irq, .int .i64 x.prio] 134), by simp; have := lS1; omega⟩ ?_
            clear hgX
            rintro W2 ⟨b2, hX2, lH2, lX2, hS2, lS2⟩
            refine wpAnyH_ready (rs := [4]) (by kernel_rfl) (by decide) ?_
            refine AllReadyH.cons rfl (fun K2 hK2 => ?_) AllReadyH.nil
            · refine step_app_rd rfl _ _ 31 rfl w0.heap.size 134 i0 _ 2 _ Tryz.underlying31 hi0 hz0 hz1 hz2 rfl (by omega) Wt.cells_len Wt.one (.slice (some ⟨gS, 0, none⟩) 0 0) (0) [] rfl hS2 (A := some ⟨b, off, none⟩) (m := k) (c := c) (l := (l.take k)) rfl (hkrd.below b2 hh) (by unfold maxLen; omega) (by omega) b2.size ?_
              intro v3 W3 hS3 g3
              have b3 : Below w0.heap.size w0 W3 := b2.grown g3 b2.size (own_ge hS2)
              refine hK2.out _ _ (SH _ b3) (fun _ => ?_)
              have hX3 : ∀ (j : Nat) (u : Value), (Wt.cells x)[j]? = some u → W3.cell? ⟨gX, j, none⟩ = some u := fun j u hu => g3.cell (hX2 j u hu) (by simp only [Value.ownBlock, ne_eq, Option.some.injEq]; omega)
              have lX3 : gX < W3.heap.size := by have := g3.size; have := lX2; omega
              have lH3 : W3.heap[gX]? = some (.cells #[.int .i64 x.irq, .int .i64 x.prio] 134 (0, 0)) := (g3.block gX lX2 (by simp only [Value.ownBlock, ne_eq, Option.some.injEq]; omega)).trans lH2
              refine wpAnyH_ready (rs := [7]) (by kernel_rfl) (by decide) ?_
              refine AllReadyH.cons rfl (fun K3 hK3 => ?_) AllReadyH.nil
              · refine step_app_rd rfl _ _ 31 rfl w0.heap.size 134 i0 _ 2 _ Tryz.underlying31 hi0 hz0 hz1 hz2 rfl (by omega) Wt.cells_len Wt.one v3 (0 + k) ([] ++ (l.take k).flatMap Wt.cells) rfl hS3 (A := some ⟨gX, 0, none⟩) (m := 1) (c := 1) (l := [x]) rfl (rd_one hX3) (by unfold maxLen; omega) (by omega) b3.size ?_
                intro v4 W4 hS4 g4
                have b4 : Below w0.heap.size w0 W4 := b3.grown g4 b3.size (own_ge hS3)
                refine hK3.out _ _ (SH _ b4) (fun _ => ?_)
                refine wpAnyH_ready (rs := [11]) (by kernel_rfl) (by decide) ?_
                refine AllReadyH.cons rfl (fun K4 hK4 => ?_) AllReadyH.nil
                · refine step_app_rd rfl _ _ 31 rfl w0.heap.size 134 i0 _ 2 _ Tryz.underlying31 hi0 hz0 hz1 hz2 rfl (by omega) Wt.cells_len Wt.one v4 (0 + k + 1) (([] ++ (l.take k).flatMap Wt.cells) ++ [x].flatMap Wt.cells) rfl hS4 (A := B0) (m := n - k) (c := c - k) (l := (l.drop k)) rfl (hdrd.below b4 hh) (by unfold maxLen; omega) (by omega) b4.size ?_
                  intro v5 W5 hS5 g5
                  have b5 : Below w0.heap.size w0 W5 := b4.grown g5 b4.size (own_ge hS4)
                  refine hK4.out _ _ (SH _ b5) (fun _ => ?_)
                  refine wpAnyH_ready (rs := [12]) (by kernel_rfl) (by decide) ?_
                  refine AllReadyH.cons rfl (fun K5 hK5 => ?_) AllReadyH.nil
                  · go_simp
                    refine hK5.out _ _ (SH _ b5) (fun _ => ?_)
                    refine ⟨by kernel_rfl, ?_⟩
                    go_wp2_with fail
                    go_ret
                    have oS := Ow.of_own Wt.cells_len hS5 (l := Wt.ins l x) (by rw [Wt.ins, HQ.out]; simp) (by rw [Wt.ins_len]; have := H.out; omega)
                    exact ⟨_, rfl, oS.mono bW.size (Nat.le_refl _), bW.trans (b5.mono bW.size)⟩
        · go_simp
          refine hK0.out _ _ (SH _ (b0'.alloc b0'.size (.cells #[.int .i64 x.irq, .int .i64 x.prio] 134))) (fun _ => ?_)
          obtain ⟨gX, hgX⟩ : ∃ g, g = W0.heap.size := ⟨_, rfl⟩
          have zgX : w0.heap.size ≤ gX := by rw [hgX]; exact b0'.size
          rw [← hgX]
          refine held_gen (F := fun W' => Below w0.heap.size w0 W' ∧ (∀ (j : Nat) (u : Value), (Wt.cells x)[j]? = some u → W'.cell? ⟨gX, j, none⟩ = some u) ∧ W'.heap[gX]? = some (.cells #[.int .i64 x.irq, .int .i64 x.prio] 134 (0, 0)) ∧ gX < W'.heap.size) ⟨b0'.alloc b0'.size (.cells #[.int .i64 x.irq, .int .i64 x.prio] 134), fun j u hu => cell_new W0 _ _ hgX (by simpa [Wt.cells] using hu), by rw [hgX]; exact heap_alloc_new _ _, by simp [hgX]⟩ ?_
          clear hgX
          rintro W1 ⟨b1, hX1, lH1, lX1⟩
          refine wpAnyH_ready (rs := [0]) (by kernel_rfl) (by decide) ?_
          refine AllReadyH.cons rfl (fun K1 hK1 => ?_) AllReadyH.nil
          · go_simp
            refine hK1.out _ _ (SH _ (b1.alloc b1.size (.cells #[] 134))) (fun _ => ?_)
            obtain ⟨gS, hgS⟩ : ∃ g, g = W1.heap.size := ⟨_, rfl⟩
            have zgS : w0.heap.size ≤ gS := by rw [hgS]; exact b1.size
            have gne : gX ≠ gS := by have := lX1; omega
            rw [← hgS]
            refine held_gen (F := fun W' => Below w0.heap.size w0 W' ∧ W'.ownsRow w0.heap.size 134 2 (.slice (some ⟨gS, 0, none⟩) 0 0) 0 [] ∧ gS < W'.heap.size ∧ (∀ (j : Nat) (u : Value), (Wt.cells x)[j]? = some u → W'.cell? ⟨gX, j, none⟩ = some u) ∧ W'.heap[gX]? = some (.cells #[.int .i64 x.irq, .int .i64 x.prio] 134 (0, 0)) ∧ gX < W'.heap.size) ⟨b1.alloc b1.size (.cells #[] 134), own_empty_at W1 (g := gS) 134 2 hgS b1.size, by simp [hgS], fun j u hu => (World.cell?_alloc_lt _ _ _ (by have := lX1; exact this)).trans (hX1 j u hu), (heap_alloc_old _ _ lX1).trans lH1, by simp; have := lX1; omega⟩ ?_
            clear hgS
            rintro W2 ⟨b2, hS2, lS2, hX2, lH2, lX2⟩
            refine wpAnyH_ready (rs := [4]) (by kernel_rfl) (by decide) ?_
            refine AllReadyH.cons rfl (fun K2 hK2 => ?_) AllReadyH.nil
            · refine step_app_rd rfl _ _ 31 rfl w0.heap.size 134 i0 _ 2 _ Tryz.underlying31 hi0 hz0 hz1 hz2 rfl (by omega) Wt.cells_len Wt.one (.slice (some ⟨gS, 0, none⟩) 0 0) (0) [] rfl hS2 (A := some ⟨b, off, none⟩) (m := k) (c := c) (l := (l.take k)) rfl (hkrd.below b2 hh) (by unfold maxLen; omega) (by omega) b2.size ?_
              intro v3 W3 hS3 g3
              have b3 : Below w0.heap.size w0 W3 := b2.grown g3 b2.size (own_ge hS2)
              refine hK2.out _ _ (SH _ b3) (fun _ => ?_)
              have hX3 : ∀ (j : Nat) (u : Value), (Wt.cells x)[j]? = some u → W3.cell? ⟨gX, j, none⟩ = some u := fun j u hu => g3.cell (hX2 j u hu) (by simp only [Value.ownBlock, ne_eq, Option.some.injEq]; omega)
              have lX3 : gX < W3.heap.size := by have := g3.size; have := lX2; omega
              have lH3 : W3.heap[gX]? = some (.cells #[.int .i64 x.irq, .int .i64 x.prio] 134 (0, 0)) := (g3.block gX lX2 (by simp only [Value.ownBlock, ne_eq, Option.some.injEq]; omega)).trans lH2
              refine wpAnyH_ready (rs := [7]) (by kernel_rfl) (by decide) ?_
              refine AllReadyH.cons rfl (fun K3 hK3 => ?_) AllReadyH.nil
              · refine step_app_rd rfl _ _ 31 rfl w0.heap.size 134 i0 _ 2 _ Tryz.underlying31 hi0 hz0 hz1 hz2 rfl (by omega) Wt.cells_len Wt.one v3 (0 + k) ([] ++ (l.take k).flatMap Wt.cells) rfl hS3 (A := some ⟨gX, 0, none⟩) (m := 1) (c := 1) (l := [x]) rfl (rd_one hX3) (by unfold maxLen; omega) (by omega) b3.size ?_
                intro v4 W4 hS4 g4
                have b4 : Below w0.heap.size w0 W4 := b3.grown g4 b3.size (own_ge hS3)
                refine hK3.out _ _ (SH _ b4) (fun _ => ?_)
                refine wpAnyH_ready (rs := [11]) (by kernel_rfl) (by decide) ?_
                refine AllReadyH.cons rfl (fun K4 hK4 => ?_) AllReadyH.nil
                · refine step_app_rd rfl _ _ 31 rfl w0.heap.size 134 i0 _ 2 _ Tryz.underlying31 hi0 hz0 hz1 hz2 rfl (by omega) Wt.cells_len Wt.one v4 (0 + k + 1) (([] ++ (l.take k).flatMap Wt.cells) ++ [x].flatMap Wt.cells) rfl hS4 (A := B0) (m := n - k) (c := c - k) (l := (l.drop k)) rfl (hdrd.below b4 hh) (by unfold maxLen; omega) (by omega) b4.size ?_
                  intro v5 W5 hS5 g5
                  have b5 : Below w0.heap.size w0 W5 := b4.grown g5 b4.size (own_ge hS4)
                  refine hK4.out _ _ (SH _ b5) (fun _ => ?_)
                  refine wpAnyH_ready (rs := [12]) (by kernel_rfl) (by decide) ?_
                  refine AllReadyH.cons rfl (fun K5 hK5 => ?_) AllReadyH.nil
                  · go_simp
                    refine hK5.out _ _ (SH _ b5) (fun _ => ?_)
                    refine ⟨by kernel_rfl, ?_⟩
                    go_wp2_with fail
                    go_ret
                    have oS := Ow.of_own Wt.cells_len hS5 (l := Wt.ins l x) (by rw [Wt.ins, HQ.out]; simp) (by rw [Wt.ins_len]; have := H.out; omega)
                    exact ⟨_, rfl, oS.mono bW.size (Nat.le_refl _), bW.trans (b5.mono bW.size)⟩
      · rw [hq] at c6
        have HJ2 := Lib.hid (show ∀ (j : Nat) (z : Wt), j < k + 1 → l[j]? = some z → z.lt x = true from fun j z hj hz => by
          by_cases hjm : j = k
          · subst hjm; rw [hy.out] at hz; obtain rfl := Option.some.inj hz; exact hq
          · exact HJ.out j z (by omega) hz)
        clear hq HJ
        go_wp2_with fail
        go_quiet ((go_at_call 171; refine Calls.quiet_of_same ((c6 _).mono fun _ _ h => ⟨h.1, h.2.symm⟩)))
        go_wp2_with fail
        go_roundw
        case rel => exact ⟨k + 1, by go_num, by omega, below_drewN hb _, HJ2⟩
        case measure => simp [intOf]; omega
    · have hd : decide ((k : Int) < (n : Int)) = false := decide_eq_false (by omega)
      have HQ := Lib.hid (show Wt.pos x l = k from Wt.pos_eq x l k (by rw [← H.out]; exact hkn) HJ.out (fun z hz => by
        rw [List.getElem?_eq_none (by have := H.out; omega)] at hz; cases hz))
      clear HJ
      go_wp2_with fail
      go_quiet (fail)
      go_wp2_with fail
      have hbn := below_drewN (bW.trans (hb.mono (by omega))) nq
      have hrn := hrd.drewN nq
      have q0n : (wr.drewN nq).cell? ⟨w.heap.size, 0, none⟩ = some (.int .i64 x.irq) := q0
      have q1n : (wr.drewN nq).cell? ⟨w.heap.size, 1, none⟩ = some (.int .i64 x.prio) := q1
      have zn : wr.heap.size = (wr.drewN nq).heap.size := rfl
      rw [zn] at zz
      clear bW hrd q0 q1 hb hd zn
      generalize wr.drewN nq = w0 at hbn hrn q0n q1n zz ⊢
      have bW := hbn; have hrd := hrn; have q0 := q0n; have q1 := q1n
      clear hbn hrn q0n q1n
      replace hh : hi ≤ w0.heap.size := by omega
      have zq : w.heap.size < w0.heap.size := by omega
      have hkc : k ≤ c := by omega
      have hkrd := hrd.take_ hkn
      have hdrd := hrd.dropn hkn
      have SH : ∀ W, Below w0.heap.size w0 W → (fun (W : World) => W.cell? ⟨w.heap.size, 0, none⟩ = some (.int .i64 x.irq) ∧ W.cell? ⟨w.heap.size, 1, none⟩ = some (.int .i64 x.prio)) W := fun W hb => ⟨(hb.cell (p := ⟨w.heap.size, 0, none⟩) zq).trans q0, (hb.cell (p := ⟨w.heap.size, 1, none⟩) zq).trans q1⟩
      refine wp_region_held_drew (S := fun W => W.cell? ⟨w.heap.size, 0, none⟩ = some (.int .i64 x.irq) ∧ W.cell? ⟨w.heap.size, 1, none⟩ = some (.int .i64 x.prio)) (by kernel_rfl) (SH _ (Below.refl w0.heap.size w0).drew) (fun hHeld => ?_)
      refine wpAnyH_take (i := 1) (v := .slice A n c) rfl (by kernel_rfl) (by kernel_rfl) (by kernel_rfl) (fun _ _ _ h => h) (Or.inl ⟨by rfl, by intro w hSw; obtain ⟨y0, y1⟩ := hSw; go_simp⟩) hHeld ?_
      refine wpAnyH_take (i := 2) (v := .int .i64 k) rfl (by kernel_rfl) (by kernel_rfl) (by kernel_rfl) (fun _ _ _ h => h) (Or.inl ⟨by rfl, by intro w hSw; obtain ⟨y0, y1⟩ := hSw; go_simp⟩) hHeld ?_
      refine wpAnyH_take (i := 3) (v := .slice A k c) rfl (by kernel_rfl) (by kernel_rfl) (by kernel_rfl) (fun _ _ _ h => h) (Or.inl ⟨by rfl, by intro w hSw; obtain ⟨y0, y1⟩ := hSw; go_simp⟩) hHeld ?_
      refine wpAnyH_take (i := 5) (v := .agg #[.int .i64 x.irq, .int .i64 x.prio]) rfl (by kernel_rfl) (by kernel_rfl) (by kernel_rfl) (fun _ _ _ h => h) (Or.inl ⟨by rfl, by intro w hSw; obtain ⟨y0, y1⟩ := hSw; go_simp⟩) hHeld ?_
      refine wpAnyH_take (i := 8) (v := .slice A n c) rfl (by kernel_rfl) (by kernel_rfl) (by kernel_rfl) (fun _ _ _ h => h) (Or.inl ⟨by rfl, by intro w hSw; obtain ⟨y0, y1⟩ := hSw; go_simp⟩) hHeld ?_
      refine wpAnyH_take (i := 9) (v := .int .i64 k) rfl (by kernel_rfl) (by kernel_rfl) (by kernel_rfl) (fun _ _ _ h => h) (Or.inl ⟨by rfl, by intro w hSw; obtain ⟨y0, y1⟩ := hSw; go_simp⟩) hHeld ?_
      refine wpAnyH_take (i := 10) (v := .slice (if c = k then A else Option.map (fun z => z.add (k * 2)) A) (n - k) (c - k)) rfl (by kernel_rfl) (by kernel_rfl) (by kernel_rfl) (fun _ _ _ h => h) (Or.inl ⟨by rfl, by intro w hSw; obtain ⟨y0, y1⟩ := hSw; go_simp⟩) hHeld ?_
      clear hHeld
      generalize (if c = k then A else Option.map (fun z => z.add (k * 2)) A) = B0 at hdrd ⊢
      refine held_gen (F := fun W' => Below w0.heap.size w0 W') (Below.refl w0.heap.size w0).drew ?_
      rintro W0 b0'
      refine wpAnyH_ready (rs := [0, 6]) (by kernel_rfl) (by decide) ?_
      refine AllReadyH.cons rfl (fun K0 hK0 => ?_) (AllReadyH.cons rfl (fun K0 hK0 => ?_) AllReadyH.nil)
      · go_simp
        refine hK0.out _ _ (SH _ (b0'.alloc b0'.size (.cells #[] 134))) (fun _ => ?_)
        obtain ⟨gS, hgS⟩ : ∃ g, g = W0.heap.size := ⟨_, rfl⟩
        have zgS : w0.heap.size ≤ gS := by rw [hgS]; exact b0'.size
        rw [← hgS]
        refine held_gen (F := fun W' => Below w0.heap.size w0 W' ∧ W'.ownsRow w0.heap.size 134 2 (.slice (some ⟨gS, 0, none⟩) 0 0) 0 [] ∧ gS < W'.heap.size) ⟨b0'.alloc b0'.size (.cells #[] 134), own_empty_at W0 (g := gS) 134 2 hgS b0'.size, by simp [hgS]⟩ ?_
        clear hgS
        rintro W1 ⟨b1, hS1, lS1⟩
        refine wpAnyH_ready (rs := [4, 6]) (by kernel_rfl) (by decide) ?_
        refine AllReadyH.cons rfl (fun K1 hK1 => ?_) (AllReadyH.cons rfl (fun K1 hK1 => ?_) AllReadyH.nil)
        · refine step_app_rd rfl _ _ 31 rfl w0.heap.size 134 i0 _ 2 _ Tryz.underlying31 hi0 hz0 hz1 hz2 rfl (by omega) Wt.cells_len Wt.one (.slice (some ⟨gS, 0, none⟩) 0 0) (0) [] rfl hS1 (A := A) (m := k) (c := c) (l := (l.take k)) rfl (hkrd.below b1 hh) (by unfold maxLen; omega) (by omega) b1.size ?_
          intro v2 W2 hS2 g2
          have b2 : Below w0.heap.size w0 W2 := b1.grown g2 b1.size (own_ge hS1)
          refine hK1.out _ _ (SH _ b2) (fun _ => ?_)
          refine wpAnyH_ready (rs := [6]) (by kernel_rfl) (by decide) ?_
          refine AllReadyH.cons rfl (fun K2 hK2 => ?_) AllReadyH.nil
          · go_simp
            refine hK2.out _ _ (SH _ (b2.alloc b2.size (.cells #[.int .i64 x.irq, .int .i64 x.prio] 134))) (fun _ => ?_)
            obtain ⟨gX, hgX⟩ : ∃ g, g = W2.heap.size := ⟨_, rfl⟩
            have zgX : w0.heap.size ≤ gX := by rw [hgX]; exact b2.size
            rw [← hgX]
            refine held_gen (F := fun W' => Below w0.heap.size w0 W' ∧ (∀ (j : Nat) (u : Value), (Wt.cells x)[j]? = some u → W'.cell? ⟨gX, j, none⟩ = some u) ∧ W'.heap[gX]? = some (.cells #[.int .i64 x.irq, .int .i64 x.prio] 134 (0, 0)) ∧ gX < W'.heap.size ∧ W'.ownsRow w0.heap.size 134 2 v2 (0 + k) ([] ++ (l.take k).flatMap Wt.cells) ∧ (∀ g, v2.ownBlock = some g → g ≠ gX)) ⟨b2.alloc b2.size (.cells #[.int .i64 x.irq, .int .i64 x.prio] 134), fun j u hu => cell_new W2 _ _ hgX (by simpa [Wt.cells] using hu), by rw [hgX]; exact heap_alloc_new _ _, by simp [hgX], hS2.alloc (.cells #[.int .i64 x.irq, .int .i64 x.prio] 134), fun g hg e => by have := own_lt hS2 g hg; omega⟩ ?_
            clear hgX
            rintro W3 ⟨b3, hX3, lH3, lX3, hS3, lS3⟩
            refine wpAnyH_ready (rs := [7]) (by kernel_rfl) (by decide) ?_
            refine AllReadyH.cons rfl (fun K3 hK3 => ?_) AllReadyH.nil
            · refine step_app_rd rfl _ _ 31 rfl w0.heap.size 134 i0 _ 2 _ Tryz.underlying31 hi0 hz0 hz1 hz2 rfl (by omega) Wt.cells_len Wt.one v2 (0 + k) ([] ++ (l.take k).flatMap Wt.cells) rfl hS3 (A := some ⟨gX, 0, none⟩) (m := 1) (c := 1) (l := [x]) rfl (rd_one hX3) (by unfold maxLen; omega) (by omega) b3.size ?_
              intro v4 W4 hS4 g4
              have b4 : Below w0.heap.size w0 W4 := b3.grown g4 b3.size (own_ge hS3)
              refine hK3.out _ _ (SH _ b4) (fun _ => ?_)
              refine wpAnyH_ready (rs := [11]) (by kernel_rfl) (by decide) ?_
              refine AllReadyH.cons rfl (fun K4 hK4 => ?_) AllReadyH.nil
              · refine step_app_rd rfl _ _ 31 rfl w0.heap.size 134 i0 _ 2 _ Tryz.underlying31 hi0 hz0 hz1 hz2 rfl (by omega) Wt.cells_len Wt.one v4 (0 + k + 1) (([] ++ (l.take k).flatMap Wt.cells) ++ [x].flatMap Wt.cells) rfl hS4 (A := B0) (m := n - k) (c := c - k) (l := (l.drop k)) rfl (hdrd.below b4 hh) (by unfold maxLen; omega) (by omega) b4.size ?_
                intro v5 W5 hS5 g5
                have b5 : Below w0.heap.size w0 W5 := b4.grown g5 b4.size (own_ge hS4)
                refine hK4.out _ _ (SH _ b5) (fun _ => ?_)
                refine wpAnyH_ready (rs := [12]) (by kernel_rfl) (by decide) ?_
                refine AllReadyH.cons rfl (fun K5 hK5 => ?_) AllReadyH.nil
                · go_simp
                  refine hK5.out _ _ (SH _ b5) (fun _ => ?_)
                  refine ⟨by kernel_rfl, ?_⟩
                  go_wp2_with fail
                  go_ret
                  have oS := Ow.of_own Wt.cells_len hS5 (l := Wt.ins l x) (by rw [Wt.ins, HQ.out]; simp) (by rw [Wt.ins_len]; have := H.out; omega)
                  exact ⟨_, rfl, oS.mono bW.size (Nat.le_refl _), bW.trans (b5.mono bW.size)⟩
        · go_simp
          refine hK1.out _ _ (SH _ (b1.alloc b1.size (.cells #[.int .i64 x.irq, .int .i64 x.prio] 134))) (fun _ => ?_)
          obtain ⟨gX, hgX⟩ : ∃ g, g = W1.heap.size := ⟨_, rfl⟩
          have zgX : w0.heap.size ≤ gX := by rw [hgX]; exact b1.size
          have gne : gX ≠ gS := by have := lS1; omega
          rw [← hgX]
          refine held_gen (F := fun W' => Below w0.heap.size w0 W' ∧ (∀ (j : Nat) (u : Value), (Wt.cells x)[j]? = some u → W'.cell? ⟨gX, j, none⟩ = some u) ∧ W'.heap[gX]? = some (.cells #[.int .i64 x.irq, .int .i64 x.prio] 134 (0, 0)) ∧ gX < W'.heap.size ∧ W'.ownsRow w0.heap.size 134 2 (.slice (some ⟨gS, 0, none⟩) 0 0) 0 [] ∧ gS < W'.heap.size) ⟨b1.alloc b1.size (.cells #[.int .i64 x.irq, .int .i64 x.prio] 134), fun j u hu => cell_new W1 _ _ hgX (by simpa [Wt.cells] using hu), by rw [hgX]; exact heap_alloc_new _ _, by simp [hgX], hS1.alloc (.cells #[.int .i64 x.irq, .int .i64 x.prio] 134), by simp; have := lS1; omega⟩ ?_
          clear hgX
          rintro W2 ⟨b2, hX2, lH2, lX2, hS2, lS2⟩
          refine wpAnyH_ready (rs := [4]) (by kernel_rfl) (by decide) ?_
          refine AllReadyH.cons rfl (fun K2 hK2 => ?_) AllReadyH.nil
          · refine step_app_rd rfl _ _ 31 rfl w0.heap.size 134 i0 _ 2 _ Tryz.underlying31 hi0 hz0 hz1 hz2 rfl (by omega) Wt.cells_len Wt.one (.slice (some ⟨gS, 0, none⟩) 0 0) (0) [] rfl hS2 (A := A) (m := k) (c := c) (l := (l.take k)) rfl (hkrd.below b2 hh) (by unfold maxLen; omega) (by omega) b2.size ?_
            intro v3 W3 hS3 g3
            have b3 : Below w0.heap.size w0 W3 := b2.grown g3 b2.size (own_ge hS2)
            refine hK2.out _ _ (SH _ b3) (fun _ => ?_)
            have hX3 : ∀ (j : Nat) (u : Value), (Wt.cells x)[j]? = some u → W3.cell? ⟨gX, j, none⟩ = some u := fun j u hu => g3.cell (hX2 j u hu) (by simp only [Value.ownBlock, ne_eq, Option.some.injEq]; omega)
            have lX3 : gX < W3.heap.size := by have := g3.size; have := lX2; omega
            have lH3 : W3.heap[gX]? = some (.cells #[.int .i64 x.irq, .int .i64 x.prio] 134 (0, 0)) := (g3.block gX lX2 (by simp only [Value.ownBlock, ne_eq, Option.some.injEq]; omega)).trans lH2
            refine wpAnyH_ready (rs := [7]) (by kernel_rfl) (by decide) ?_
            refine AllReadyH.cons rfl (fun K3 hK3 => ?_) AllReadyH.nil
            · refine step_app_rd rfl _ _ 31 rfl w0.heap.size 134 i0 _ 2 _ Tryz.underlying31 hi0 hz0 hz1 hz2 rfl (by omega) Wt.cells_len Wt.one v3 (0 + k) ([] ++ (l.take k).flatMap Wt.cells) rfl hS3 (A := some ⟨gX, 0, none⟩) (m := 1) (c := 1) (l := [x]) rfl (rd_one hX3) (by unfold maxLen; omega) (by omega) b3.size ?_
              intro v4 W4 hS4 g4
              have b4 : Below w0.heap.size w0 W4 := b3.grown g4 b3.size (own_ge hS3)
              refine hK3.out _ _ (SH _ b4) (fun _ => ?_)
              refine wpAnyH_ready (rs := [11]) (by kernel_rfl) (by decide) ?_
              refine AllReadyH.cons rfl (fun K4 hK4 => ?_) AllReadyH.nil
              · refine step_app_rd rfl _ _ 31 rfl w0.heap.size 134 i0 _ 2 _ Tryz.underlying31 hi0 hz0 hz1 hz2 rfl (by omega) Wt.cells_len Wt.one v4 (0 + k + 1) (([] ++ (l.take k).flatMap Wt.cells) ++ [x].flatMap Wt.cells) rfl hS4 (A := B0) (m := n - k) (c := c - k) (l := (l.drop k)) rfl (hdrd.below b4 hh) (by unfold maxLen; omega) (by omega) b4.size ?_
                intro v5 W5 hS5 g5
                have b5 : Below w0.heap.size w0 W5 := b4.grown g5 b4.size (own_ge hS4)
                refine hK4.out _ _ (SH _ b5) (fun _ => ?_)
                refine wpAnyH_ready (rs := [12]) (by kernel_rfl) (by decide) ?_
                refine AllReadyH.cons rfl (fun K5 hK5 => ?_) AllReadyH.nil
                · go_simp
                  refine hK5.out _ _ (SH _ b5) (fun _ => ?_)
                  refine ⟨by kernel_rfl, ?_⟩
                  go_wp2_with fail
                  go_ret
                  have oS := Ow.of_own Wt.cells_len hS5 (l := Wt.ins l x) (by rw [Wt.ins, HQ.out]; simp) (by rw [Wt.ins_len]; have := H.out; omega)
                  exact ⟨_, rfl, oS.mono bW.size (Nat.le_refl _), bW.trans (b5.mono bW.size)⟩
      · go_simp
        refine hK0.out _ _ (SH _ (b0'.alloc b0'.size (.cells #[.int .i64 x.irq, .int .i64 x.prio] 134))) (fun _ => ?_)
        obtain ⟨gX, hgX⟩ : ∃ g, g = W0.heap.size := ⟨_, rfl⟩
        have zgX : w0.heap.size ≤ gX := by rw [hgX]; exact b0'.size
        rw [← hgX]
        refine held_gen (F := fun W' => Below w0.heap.size w0 W' ∧ (∀ (j : Nat) (u : Value), (Wt.cells x)[j]? = some u → W'.cell? ⟨gX, j, none⟩ = some u) ∧ W'.heap[gX]? = some (.cells #[.int .i64 x.irq, .int .i64 x.prio] 134 (0, 0)) ∧ gX < W'.heap.size) ⟨b0'.alloc b0'.size (.cells #[.int .i64 x.irq, .int .i64 x.prio] 134), fun j u hu => cell_new W0 _ _ hgX (by simpa [Wt.cells] using hu), by rw [hgX]; exact heap_alloc_new _ _, by simp [hgX]⟩ ?_
        clear hgX
        rintro W1 ⟨b1, hX1, lH1, lX1⟩
        refine wpAnyH_ready (rs := [0]) (by kernel_rfl) (by decide) ?_
        refine AllReadyH.cons rfl (fun K1 hK1 => ?_) AllReadyH.nil
        · go_simp
          refine hK1.out _ _ (SH _ (b1.alloc b1.size (.cells #[] 134))) (fun _ => ?_)
          obtain ⟨gS, hgS⟩ : ∃ g, g = W1.heap.size := ⟨_, rfl⟩
          have zgS : w0.heap.size ≤ gS := by rw [hgS]; exact b1.size
          have gne : gX ≠ gS := by have := lX1; omega
          rw [← hgS]
          refine held_gen (F := fun W' => Below w0.heap.size w0 W' ∧ W'.ownsRow w0.heap.size 134 2 (.slice (some ⟨gS, 0, none⟩) 0 0) 0 [] ∧ gS < W'.heap.size ∧ (∀ (j : Nat) (u : Value), (Wt.cells x)[j]? = some u → W'.cell? ⟨gX, j, none⟩ = some u) ∧ W'.heap[gX]? = some (.cells #[.int .i64 x.irq, .int .i64 x.prio] 134 (0, 0)) ∧ gX < W'.heap.size) ⟨b1.alloc b1.size (.cells #[] 134), own_empty_at W1 (g := gS) 134 2 hgS b1.size, by simp [hgS], fun j u hu => (World.cell?_alloc_lt _ _ _ (by have := lX1; exact this)).trans (hX1 j u hu), (heap_alloc_old _ _ lX1).trans lH1, by simp; have := lX1; omega⟩ ?_
          clear hgS
          rintro W2 ⟨b2, hS2, lS2, hX2, lH2, lX2⟩
          refine wpAnyH_ready (rs := [4]) (by kernel_rfl) (by decide) ?_
          refine AllReadyH.cons rfl (fun K2 hK2 => ?_) AllReadyH.nil
          · refine step_app_rd rfl _ _ 31 rfl w0.heap.size 134 i0 _ 2 _ Tryz.underlying31 hi0 hz0 hz1 hz2 rfl (by omega) Wt.cells_len Wt.one (.slice (some ⟨gS, 0, none⟩) 0 0) (0) [] rfl hS2 (A := A) (m := k) (c := c) (l := (l.take k)) rfl (hkrd.below b2 hh) (by unfold maxLen; omega) (by omega) b2.size ?_
            intro v3 W3 hS3 g3
            have b3 : Below w0.heap.size w0 W3 := b2.grown g3 b2.size (own_ge hS2)
            refine hK2.out _ _ (SH _ b3) (fun _ => ?_)
            have hX3 : ∀ (j : Nat) (u : Value), (Wt.cells x)[j]? = some u → W3.cell? ⟨gX, j, none⟩ = some u := fun j u hu => g3.cell (hX2 j u hu) (by simp only [Value.ownBlock, ne_eq, Option.some.injEq]; omega)
            have lX3 : gX < W3.heap.size := by have := g3.size; have := lX2; omega
            have lH3 : W3.heap[gX]? = some (.cells #[.int .i64 x.irq, .int .i64 x.prio] 134 (0, 0)) := (g3.block gX lX2 (by simp only [Value.ownBlock, ne_eq, Option.some.injEq]; omega)).trans lH2
            refine wpAnyH_ready (rs := [7]) (by kernel_rfl) (by decide) ?_
            refine AllReadyH.cons rfl (fun K3 hK3 => ?_) AllReadyH.nil
            · refine step_app_rd rfl _ _ 31 rfl w0.heap.size 134 i0 _ 2 _ Tryz.underlying31 hi0 hz0 hz1 hz2 rfl (by omega) Wt.cells_len Wt.one v3 (0 + k) ([] ++ (l.take k).flatMap Wt.cells) rfl hS3 (A := some ⟨gX, 0, none⟩) (m := 1) (c := 1) (l := [x]) rfl (rd_one hX3) (by unfold maxLen; omega) (by omega) b3.size ?_
              intro v4 W4 hS4 g4
              have b4 : Below w0.heap.size w0 W4 := b3.grown g4 b3.size (own_ge hS3)
              refine hK3.out _ _ (SH _ b4) (fun _ => ?_)
              refine wpAnyH_ready (rs := [11]) (by kernel_rfl) (by decide) ?_
              refine AllReadyH.cons rfl (fun K4 hK4 => ?_) AllReadyH.nil
              · refine step_app_rd rfl _ _ 31 rfl w0.heap.size 134 i0 _ 2 _ Tryz.underlying31 hi0 hz0 hz1 hz2 rfl (by omega) Wt.cells_len Wt.one v4 (0 + k + 1) (([] ++ (l.take k).flatMap Wt.cells) ++ [x].flatMap Wt.cells) rfl hS4 (A := B0) (m := n - k) (c := c - k) (l := (l.drop k)) rfl (hdrd.below b4 hh) (by unfold maxLen; omega) (by omega) b4.size ?_
                intro v5 W5 hS5 g5
                have b5 : Below w0.heap.size w0 W5 := b4.grown g5 b4.size (own_ge hS4)
                refine hK4.out _ _ (SH _ b5) (fun _ => ?_)
                refine wpAnyH_ready (rs := [12]) (by kernel_rfl) (by decide) ?_
                refine AllReadyH.cons rfl (fun K5 hK5 => ?_) AllReadyH.nil
                · go_simp
                  refine hK5.out _ _ (SH _ b5) (fun _ => ?_)
                  refine ⟨by kernel_rfl, ?_⟩
                  go_wp2_with fail
                  go_ret
                  have oS := Ow.of_own Wt.cells_len hS5 (l := Wt.ins l x) (by rw [Wt.ins, HQ.out]; simp) (by rw [Wt.ins_len]; have := H.out; omega)
                  exact ⟨_, rfl, oS.mono bW.size (Nat.le_refl _), bW.trans (b5.mono bW.size)⟩
set_option maxHeartbeats 8000000 in
theorem implWait_any (v : Value) (l : List Wt) (x : Wt) (w : World) {lo hi : Nat} (h : Rd Wt.cells 2 w lo hi v l) (hh : hi ≤ w.heap.size) (hl : l.length ≤ 1048576) :
    Calls Tryz.prog 151 #[v, .agg #[.int .i64 x.irq, .int .i64 x.prio]] w fun e w' => ∃ v', e = .returned v' ∧ Ow Wt.cells 2 134 w' w.heap.size w'.heap.size v' (Wt.ins l x) ∧ Below w.heap.size w w' := by
  have bW : Below w.heap.size w (w.alloc (.cells #[.int .i64 x.irq, .int .i64 x.prio] 134)) := (Below.refl w.heap.size w).alloc (Nat.le_refl _) _
  have z0 : (w.alloc (.cells #[.int .i64 x.irq, .int .i64 x.prio] 134)).heap.size = w.heap.size + 1 := by simp
  have q0 : (w.alloc (.cells #[.int .i64 x.irq, .int .i64 x.prio] 134)).cell? ⟨w.heap.size, 0, none⟩ = some (.int .i64 x.irq) := by simp
  have q1 : (w.alloc (.cells #[.int .i64 x.irq, .int .i64 x.prio] 134)).cell? ⟨w.heap.size, 1, none⟩ = some (.int .i64 x.prio) := by simp
  have hrd := h.below bW hh
  replace hh : hi ≤ (w.alloc (.cells #[.int .i64 x.irq, .int .i64 x.prio] 134)).heap.size := by omega
  obtain ⟨A, n, c, rfl, H, hc, hm⟩ := h.form
  have hn : n ≤ 1048576 := by rw [H.out]; exact hl
  clear h hl
  obtain ⟨i0, hi0, hz0, hz1, hz2⟩ := info_parts Wt.info
  go_enter Tryz.func151, Tryz.ntmps151
  go_wp2_with fail
  generalize w.alloc _ = wA at *
  go_loopw [5] (fun q wr => ∃ k : Nat, q = .int .i64 k ∧ k ≤ n ∧ Below wA.heap.size wA wr ∧ Hid (∀ (j : Nat) (y : Wt), j < k → l[j]? = some y → y.lt x = true)) (fun q _ => n - (intOf q).toNat)
  case atStart => exact ⟨0, rfl, Nat.zero_le _, Below.refl _ _, Lib.hid (fun j y hj => by omega)⟩
  case round =>
    obtain ⟨k, rfl, hkn, hb, HJ⟩ := hrel
    replace hrd := hrd.below hb hh
    replace q0 := (hb.cell (p := ⟨w.heap.size, 0, none⟩) (by show w.heap.size < _; omega)).trans q0
    replace q1 := (hb.cell (p := ⟨w.heap.size, 1, none⟩) (by show w.heap.size < _; omega)).trans q1
    have zz := hb.size
    have e2 := cell_ext q0; have e3 := cell_ext q1
    by_cases hlt : k < n
    · have hd : decide ((k : Int) < (n : Int)) = true := decide_eq_true (by omega)
      obtain ⟨b, off, y, rfl, hy, _, hbl, f0, f1⟩ := Wt.get hrd hlt (Below.refl wr.heap.size wr) (by omega)
      have hik : (k : Int) < (n : Int) := by omega
      have e0 := cell_ext f0; have e1 := cell_ext f1
      have hlt2 := urg_neg ⟨y.irq, y.prio⟩ ⟨x.irq, x.prio⟩
      cases hq : Wt.lt ⟨y.irq, y.prio⟩ ⟨x.irq, x.prio⟩
      · have hd2 : decide (urg ⟨y.irq, y.prio⟩ ⟨x.irq, x.prio⟩ < 0) = false := decide_eq_false (fun h => by rw [hlt2, hq] at h; cases h)
        have HQ := Lib.hid (show Wt.pos x l = k from Wt.pos_eq x l k (by rw [← H.out]; exact hkn) HJ.out (fun z hz => by rw [hy.out] at hz; obtain rfl := Option.some.inj hz; exact hq))
        clear hq hlt2 HJ
        go_wp2_with fail
        refine wp_region_ext_all (by kernel_rfl) (by kernel_rfl) ?_
        repeat (go_big_quiet_step ((go_at_call 153; exact calls_ext (compareUrgency_at _ _ _ _ _))))
        refine wpQuiet_nil ?_
        intro w0 b3
        clear e0 e1 e2 e3 f0 f1
        have zz3 := b3.size
        replace q0 := (b3.cell (p := ⟨w.heap.size, 0, none⟩) (by show w.heap.size < _; omega)).trans q0
        replace q1 := (b3.cell (p := ⟨w.heap.size, 1, none⟩) (by show w.heap.size < _; omega)).trans q1
        replace hrd := hrd.below b3 (by omega)
        replace bW := bW.trans ((hb.trans (b3.mono hb.size)).mono (by omega))
        clear b3 hb
        go_wp2_with fail
        replace hh : hi ≤ w0.heap.size := by omega
        have zq : w.heap.size < w0.heap.size := by omega
        have SH : ∀ W, Below w0.heap.size w0 W → (fun (W : World) => W.cell? ⟨w.heap.size, 0, none⟩ = some (.int .i64 x.irq) ∧ W.cell? ⟨w.heap.size, 1, none⟩ = some (.int .i64 x.prio)) W := fun W hb => ⟨(hb.cell (p := ⟨w.heap.size, 0, none⟩) zq).trans q0, (hb.cell (p := ⟨w.heap.size, 1, none⟩) zq).trans q1⟩
        refine wp_region_held_drew (S := fun W => W.cell? ⟨w.heap.size, 0, none⟩ = some (.int .i64 x.irq) ∧ W.cell? ⟨w.heap.size, 1, none⟩ = some (.int .i64 x.prio)) (by kernel_rfl) (SH _ (Below.refl w0.heap.size w0).drew) (fun hHeld => ?_)
        refine wpAnyH_take (i := 1) (v := .slice (some ⟨b, off, none⟩) n c) rfl (by kernel_rfl) (by kernel_rfl) (by kernel_rfl) (fun _ _ _ h => h) (Or.inl ⟨by rfl, by intro w hSw; obtain ⟨y0, y1⟩ := hSw; go_simp⟩) hHeld ?_
        refine wpAnyH_take (i := 3) (v := .int .i64 k) rfl (by kernel_rfl) (by kernel_rfl) (by kernel_rfl) (fun _ _ _ h => h) (Or.inl ⟨by rfl, by intro w hSw; obtain ⟨y0, y1⟩ := hSw; go_simp⟩) hHeld ?_
        refine wpAnyH_take (i := 4) (v := .agg #[.int .i64 x.irq, .int .i64 x.prio]) rfl (by kernel_rfl) (by kernel_rfl) (by kernel_rfl) (fun _ _ _ h => h) (Or.inl ⟨by rfl, by intro w hSw; obtain ⟨y0, y1⟩ := hSw; go_simp⟩) hHeld ?_
        clear hHeld
        refine held_gen (F := fun W' => Below w0.heap.size w0 W') (Below.refl w0.heap.size w0).drew ?_
        rintro W0 b0'
        refine wpAnyH_ready (rs := [0, 5]) (by kernel_rfl) (by decide) ?_
        refine AllReadyH.cons rfl (fun K0 hK0 => ?_) (AllReadyH.cons rfl (fun K0 hK0 => ?_) AllReadyH.nil)
        · go_simp
          refine hK0.out _ _ (SH _ (b0'.alloc b0'.size (.cells #[] 134))) (fun _ => ?_)
          obtain ⟨gS, hgS⟩ : ∃ g, g = W0.heap.size := ⟨_, rfl⟩
          have zgS : w0.heap.size ≤ gS := by rw [hgS]; exact b0'.size
          rw [← hgS]
          refine held_gen (F := fun W' => Below w0.heap.size w0 W' ∧ W'.ownsRow w0.heap.size 134 2 (.slice (some ⟨gS, 0, none⟩) 0 0) 0 [] ∧ gS < W'.heap.size) ⟨b0'.alloc b0'.size (.cells #[] 134), own_empty_at W0 (g := gS) 134 2 hgS b0'.size, by simp [hgS]⟩ ?_
          clear hgS
          rintro W1 ⟨b1, hS1, lS1⟩
          refine wpAnyH_ready (rs := [2, 5]) (by kernel_rfl) (by decide) ?_
          refine AllReadyH.cons rfl (fun K1 hK1 => ?_) (AllReadyH.cons rfl (fun K1 hK1 => ?_) AllReadyH.nil)
          · refine step_app_rd2 rfl _ _ 31 rfl w0.heap.size 134 i0 _ 2 _ Tryz.underlying31 hi0 hz0 hz1 hz2 rfl (by omega) Wt.cells_len Wt.one (.slice (some ⟨gS, 0, none⟩) 0 0) (0) [] rfl hS1 (A := some ⟨b, off, none⟩) (m := n) (c := c) (l := l) rfl (hrd.below b1 hh) (by unfold maxLen; omega) (by omega) b1.size ?_
            intro v2 W2 hS2 g2 e2
            have b2 : Below w0.heap.size w0 W2 := b1.grown g2 b1.size (own_ge hS1)
            refine hK1.out _ _ (SH _ b2) (fun _ => ?_)
            refine wpAnyH_ready (rs := [5]) (by kernel_rfl) (by decide) ?_
            refine AllReadyH.cons rfl (fun K2 hK2 => ?_) AllReadyH.nil
            · go_simp
              refine hK2.out _ _ (SH _ (b2.alloc b2.size (.cells #[.int .i64 x.irq, .int .i64 x.prio] 134))) (fun _ => ?_)
              obtain ⟨gX, hgX⟩ : ∃ g, g = W2.heap.size := ⟨_, rfl⟩
              have zgX : w0.heap.size ≤ gX := by rw [hgX]; exact b2.size
              rw [← hgX]
              refine held_gen (F := fun W' => Below w0.heap.size w0 W' ∧ (∀ (j : Nat) (u : Value), (Wt.cells x)[j]? = some u → W'.cell? ⟨gX, j, none⟩ = some u) ∧ W'.heap[gX]? = some (.cells #[.int .i64 x.irq, .int .i64 x.prio] 134 (0, 0)) ∧ gX < W'.heap.size ∧ W'.ownsRow w0.heap.size 134 2 v2 (0 + n) ([] ++ l.flatMap Wt.cells) ∧ (∀ g, v2.ownBlock = some g → g ≠ gX)) ⟨b2.alloc b2.size (.cells #[.int .i64 x.irq, .int .i64 x.prio] 134), fun j u hu => cell_new W2 _ _ hgX (by simpa [Wt.cells] using hu), by rw [hgX]; exact heap_alloc_new _ _, by simp [hgX], hS2.alloc (.cells #[.int .i64 x.irq, .int .i64 x.prio] 134), fun g hg e => by have := own_lt hS2 g hg; omega⟩ ?_
              clear hgX
              rintro W3 ⟨b3, hX3, lH3, lX3, hS3, lS3⟩
              refine wpAnyH_ready (rs := [6]) (by kernel_rfl) (by decide) ?_
              refine AllReadyH.cons rfl (fun K3 hK3 => ?_) AllReadyH.nil
              · go_simp
                refine (Wt.insert_any v2 l k x gX W3 w0 b3 (by have h := hS3; rw [Nat.zero_add, List.nil_append, H.out] at h; exact h) (by rw [← H.out]; exact hkn) (by rw [← H.out]; exact hn) lH3 (fun e => lS3 _ e rfl)).mono ?_
                rintro e_ Wz ⟨vz, rfl, hSz, bz⟩
                refine hK3.out _ _ (SH _ bz) (fun _ => ?_)
                refine wpAnyH_ready (rs := [7]) (by kernel_rfl) (by decide) ?_
                refine AllReadyH.cons rfl (fun K9 hK9 => ?_) AllReadyH.nil
                go_simp
                refine hK9.out _ _ (SH _ bz) (fun _ => ?_)
                refine ⟨by kernel_rfl, ?_⟩
                go_wp2_with fail
                go_ret
                have oS := Ow.of_own Wt.cells_len hSz (l := Wt.ins l x) (by rw [Wt.ins, HQ.out]) (by rw [Wt.ins_len])
                exact ⟨_, rfl, oS.mono bW.size (Nat.le_refl _), bW.trans (bz.mono bW.size)⟩
          · go_simp
            refine hK1.out _ _ (SH _ (b1.alloc b1.size (.cells #[.int .i64 x.irq, .int .i64 x.prio] 134))) (fun _ => ?_)
            obtain ⟨gX, hgX⟩ : ∃ g, g = W1.heap.size := ⟨_, rfl⟩
            have zgX : w0.heap.size ≤ gX := by rw [hgX]; exact b1.size
            have gne : gX ≠ gS := by have := lS1; omega
            rw [← hgX]
            refine held_gen (F := fun W' => Below w0.heap.size w0 W' ∧ (∀ (j : Nat) (u : Value), (Wt.cells x)[j]? = some u → W'.cell? ⟨gX, j, none⟩ = some u) ∧ W'.heap[gX]? = some (.cells #[.int .i64 x.irq, .int .i64 x.prio] 134 (0, 0)) ∧ gX < W'.heap.size ∧ W'.ownsRow w0.heap.size 134 2 (.slice (some ⟨gS, 0, none⟩) 0 0) 0 [] ∧ gS < W'.heap.size) ⟨b1.alloc b1.size (.cells #[.int .i64 x.irq, .int .i64 x.prio] 134), fun j u hu => cell_new W1 _ _ hgX (by simpa [Wt.cells] using hu), by rw [hgX]; exact heap_alloc_new _ _, by simp [hgX], hS1.alloc (.cells #[.int .i64 x.irq, .int .i64 x.prio] 134), by simp; have := lS1; omega⟩ ?_
            clear hgX
            rintro W2 ⟨b2, hX2, lH2, lX2, hS2, lS2⟩
            refine wpAnyH_ready (rs := [2]) (by kernel_rfl) (by decide) ?_
            refine AllReadyH.cons rfl (fun K2 hK2 => ?_) AllReadyH.nil
            · refine step_app_rd2 rfl _ _ 31 rfl w0.heap.size 134 i0 _ 2 _ Tryz.underlying31 hi0 hz0 hz1 hz2 rfl (by omega) Wt.cells_len Wt.one (.slice (some ⟨gS, 0, none⟩) 0 0) (0) [] rfl hS2 (A := some ⟨b, off, none⟩) (m := n) (c := c) (l := l) rfl (hrd.below b2 hh) (by unfold maxLen; omega) (by omega) b2.size ?_
              intro v3 W3 hS3 g3 e3
              have b3 : Below w0.heap.size w0 W3 := b2.grown g3 b2.size (own_ge hS2)
              refine hK2.out _ _ (SH _ b3) (fun _ => ?_)
              have hX3 : ∀ (j : Nat) (u : Value), (Wt.cells x)[j]? = some u → W3.cell? ⟨gX, j, none⟩ = some u := fun j u hu => g3.cell (hX2 j u hu) (by simp only [Value.ownBlock, ne_eq, Option.some.injEq]; omega)
              have lX3 : gX < W3.heap.size := by have := g3.size; have := lX2; omega
              have lH3 : W3.heap[gX]? = some (.cells #[.int .i64 x.irq, .int .i64 x.prio] 134 (0, 0)) := (g3.block gX lX2 (by simp only [Value.ownBlock, ne_eq, Option.some.injEq]; omega)).trans lH2
              have lS3 : ∀ g, v3.ownBlock = some g → g ≠ gX := fun g hg e => by
                rcases e3 with h | h
                · rw [h] at hg; simp only [Value.ownBlock, Option.some.injEq] at hg; omega
                · rw [h] at hg; simp only [Option.some.injEq] at hg; have := lX2; omega
              refine wpAnyH_ready (rs := [6]) (by kernel_rfl) (by decide) ?_
              refine AllReadyH.cons rfl (fun K3 hK3 => ?_) AllReadyH.nil
              · go_simp
                refine (Wt.insert_any v3 l k x gX W3 w0 b3 (by have h := hS3; rw [Nat.zero_add, List.nil_append, H.out] at h; exact h) (by rw [← H.out]; exact hkn) (by rw [← H.out]; exact hn) lH3 (fun e => lS3 _ e rfl)).mono ?_
                rintro e_ Wz ⟨vz, rfl, hSz, bz⟩
                refine hK3.out _ _ (SH _ bz) (fun _ => ?_)
                refine wpAnyH_ready (rs := [7]) (by kernel_rfl) (by decide) ?_
                refine AllReadyH.cons rfl (fun K9 hK9 => ?_) AllReadyH.nil
                go_simp
                refine hK9.out _ _ (SH _ bz) (fun _ => ?_)
                refine ⟨by kernel_rfl, ?_⟩
                go_wp2_with fail
                go_ret
                have oS := Ow.of_own Wt.cells_len hSz (l := Wt.ins l x) (by rw [Wt.ins, HQ.out]) (by rw [Wt.ins_len])
                exact ⟨_, rfl, oS.mono bW.size (Nat.le_refl _), bW.trans (bz.mono bW.size)⟩
        · go_simp
          refine hK0.out _ _ (SH _ (b0'.alloc b0'.size (.cells #[.int .i64 x.irq, .int .i64 x.prio] 134))) (fun _ => ?_)
          obtain ⟨gX, hgX⟩ : ∃ g, g = W0.heap.size := ⟨_, rfl⟩
          have zgX : w0.heap.size ≤ gX := by rw [hgX]; exact b0'.size
          rw [← hgX]
          refine held_gen (F := fun W' => Below w0.heap.size w0 W' ∧ (∀ (j : Nat) (u : Value), (Wt.cells x)[j]? = some u → W'.cell? ⟨gX, j, none⟩ = some u) ∧ W'.heap[gX]? = some (.cells #[.int .i64 x.irq, .int .i64 x.prio] 134 (0, 0)) ∧ gX < W'.heap.size) ⟨b0'.alloc b0'.size (.cells #[.int .i64 x.irq, .int .i64 x.prio] 134), fun j u hu => cell_new W0 _ _ hgX (by simpa [Wt.cells] using hu), by rw [hgX]; exact heap_alloc_new _ _, by simp [hgX]⟩ ?_
          clear hgX
          rintro W1 ⟨b1, hX1, lH1, lX1⟩
          refine wpAnyH_ready (rs := [0]) (by kernel_rfl) (by decide) ?_
          refine AllReadyH.cons rfl (fun K1 hK1 => ?_) AllReadyH.nil
          · go_simp
            refine hK1.out _ _ (SH _ (b1.alloc b1.size (.cells #[] 134))) (fun _ => ?_)
            obtain ⟨gS, hgS⟩ : ∃ g, g = W1.heap.size := ⟨_, rfl⟩
            have zgS : w0.heap.size ≤ gS := by rw [hgS]; exact b1.size
            have gne : gX ≠ gS := by have := lX1; omega
            rw [← hgS]
            refine held_gen (F := fun W' => Below w0.heap.size w0 W' ∧ W'.ownsRow w0.heap.size 134 2 (.slice (some ⟨gS, 0, none⟩) 0 0) 0 [] ∧ gS < W'.heap.size ∧ (∀ (j : Nat) (u : Value), (Wt.cells x)[j]? = some u → W'.cell? ⟨gX, j, none⟩ = some u) ∧ W'.heap[gX]? = some (.cells #[.int .i64 x.irq, .int .i64 x.prio] 134 (0, 0)) ∧ gX < W'.heap.size) ⟨b1.alloc b1.size (.cells #[] 134), own_empty_at W1 (g := gS) 134 2 hgS b1.size, by simp [hgS], fun j u hu => (World.cell?_alloc_lt _ _ _ (by have := lX1; exact this)).trans (hX1 j u hu), (heap_alloc_old _ _ lX1).trans lH1, by simp; have := lX1; omega⟩ ?_
            clear hgS
            rintro W2 ⟨b2, hS2, lS2, hX2, lH2, lX2⟩
            refine wpAnyH_ready (rs := [2]) (by kernel_rfl) (by decide) ?_
            refine AllReadyH.cons rfl (fun K2 hK2 => ?_) AllReadyH.nil
            · refine step_app_rd2 rfl _ _ 31 rfl w0.heap.size 134 i0 _ 2 _ Tryz.underlying31 hi0 hz0 hz1 hz2 rfl (by omega) Wt.cells_len Wt.one (.slice (some ⟨gS, 0, none⟩) 0 0) (0) [] rfl hS2 (A := some ⟨b, off, none⟩) (m := n) (c := c) (l := l) rfl (hrd.below b2 hh) (by unfold maxLen; omega) (by omega) b2.size ?_
              intro v3 W3 hS3 g3 e3
              have b3 : Below w0.heap.size w0 W3 := b2.grown g3 b2.size (own_ge hS2)
              refine hK2.out _ _ (SH _ b3) (fun _ => ?_)
              have hX3 : ∀ (j : Nat) (u : Value), (Wt.cells x)[j]? = some u → W3.cell? ⟨gX, j, none⟩ = some u := fun j u hu => g3.cell (hX2 j u hu) (by simp only [Value.ownBlock, ne_eq, Option.some.injEq]; omega)
              have lX3 : gX < W3.heap.size := by have := g3.size; have := lX2; omega
              have lH3 : W3.heap[gX]? = some (.cells #[.int .i64 x.irq, .int .i64 x.prio] 134 (0, 0)) := (g3.block gX lX2 (by simp only [Value.ownBlock, ne_eq, Option.some.injEq]; omega)).trans lH2
              have lS3 : ∀ g, v3.ownBlock = some g → g ≠ gX := fun g hg e => by
                rcases e3 with h | h
                · rw [h] at hg; simp only [Value.ownBlock, Option.some.injEq] at hg; omega
                · rw [h] at hg; simp only [Option.some.injEq] at hg; have := lX2; omega
              refine wpAnyH_ready (rs := [6]) (by kernel_rfl) (by decide) ?_
              refine AllReadyH.cons rfl (fun K3 hK3 => ?_) AllReadyH.nil
              · go_simp
                refine (Wt.insert_any v3 l k x gX W3 w0 b3 (by have h := hS3; rw [Nat.zero_add, List.nil_append, H.out] at h; exact h) (by rw [← H.out]; exact hkn) (by rw [← H.out]; exact hn) lH3 (fun e => lS3 _ e rfl)).mono ?_
                rintro e_ Wz ⟨vz, rfl, hSz, bz⟩
                refine hK3.out _ _ (SH _ bz) (fun _ => ?_)
                refine wpAnyH_ready (rs := [7]) (by kernel_rfl) (by decide) ?_
                refine AllReadyH.cons rfl (fun K9 hK9 => ?_) AllReadyH.nil
                go_simp
                refine hK9.out _ _ (SH _ bz) (fun _ => ?_)
                refine ⟨by kernel_rfl, ?_⟩
                go_wp2_with fail
                go_ret
                have oS := Ow.of_own Wt.cells_len hSz (l := Wt.ins l x) (by rw [Wt.ins, HQ.out]) (by rw [Wt.ins_len])
                exact ⟨_, rfl, oS.mono bW.size (Nat.le_refl _), bW.trans (bz.mono bW.size)⟩
      · have hd2 : decide (urg ⟨y.irq, y.prio⟩ ⟨x.irq, x.prio⟩ < 0) = true := decide_eq_true (hlt2.2 hq)
        have HJ2 := Lib.hid (show ∀ (j : Nat) (z : Wt), j < k + 1 → l[j]? = some z → z.lt x = true from fun j z hj hz => by
          by_cases hjm : j = k
          · subst hjm; rw [hy.out] at hz; obtain rfl := Option.some.inj hz; exact hq
          · exact HJ.out j z (by omega) hz)
        clear hq hlt2 HJ
        go_wp2_with fail
        refine wp_region_ext_all (by kernel_rfl) (by kernel_rfl) ?_
        repeat (go_big_quiet_step ((go_at_call 153; exact calls_ext (compareUrgency_at _ _ _ _ _))))
        refine wpQuiet_nil ?_
        intro w0 b3
        clear e0 e1 e2 e3 f0 f1
        go_wp2_with fail
        go_roundw
        case rel => exact ⟨k + 1, by go_num, by omega, hb.trans (b3.mono hb.size), HJ2⟩
        case measure => simp [intOf]; omega
    · have hd : decide ((k : Int) < (n : Int)) = false := decide_eq_false (by omega)
      have HQ := Lib.hid (show Wt.pos x l = k from Wt.pos_eq x l k (by rw [← H.out]; exact hkn) HJ.out (fun z hz => by
        rw [List.getElem?_eq_none (by have := H.out; omega)] at hz; cases hz))
      clear HJ
      go_wp2_with fail
      refine wp_region_ext_all (by kernel_rfl) (by kernel_rfl) ?_
      repeat (go_big_quiet_step (fail))
      refine wpQuiet_nil ?_
      intro w0 b3
      clear e2 e3
      have zz3 := b3.size
      replace q0 := (b3.cell (p := ⟨w.heap.size, 0, none⟩) (by show w.heap.size < _; omega)).trans q0
      replace q1 := (b3.cell (p := ⟨w.heap.size, 1, none⟩) (by show w.heap.size < _; omega)).trans q1
      replace hrd := hrd.below b3 (by omega)
      replace bW := bW.trans ((hb.trans (b3.mono hb.size)).mono (by omega))
      clear b3 hb
      go_wp2_with fail
      replace hh : hi ≤ w0.heap.size := by omega
      have zq : w.heap.size < w0.heap.size := by omega
      have SH : ∀ W, Below w0.heap.size w0 W → (fun (W : World) => W.cell? ⟨w.heap.size, 0, none⟩ = some (.int .i64 x.irq) ∧ W.cell? ⟨w.heap.size, 1, none⟩ = some (.int .i64 x.prio)) W := fun W hb => ⟨(hb.cell (p := ⟨w.heap.size, 0, none⟩) zq).trans q0, (hb.cell (p := ⟨w.heap.size, 1, none⟩) zq).trans q1⟩
      refine wp_region_held_drew (S := fun W => W.cell? ⟨w.heap.size, 0, none⟩ = some (.int .i64 x.irq) ∧ W.cell? ⟨w.heap.size, 1, none⟩ = some (.int .i64 x.prio)) (by kernel_rfl) (SH _ (Below.refl w0.heap.size w0).drew) (fun hHeld => ?_)
      refine wpAnyH_take (i := 1) (v := .slice A n c) rfl (by kernel_rfl) (by kernel_rfl) (by kernel_rfl) (fun _ _ _ h => h) (Or.inl ⟨by rfl, by intro w hSw; obtain ⟨y0, y1⟩ := hSw; go_simp⟩) hHeld ?_
      refine wpAnyH_take (i := 3) (v := .int .i64 k) rfl (by kernel_rfl) (by kernel_rfl) (by kernel_rfl) (fun _ _ _ h => h) (Or.inl ⟨by rfl, by intro w hSw; obtain ⟨y0, y1⟩ := hSw; go_simp⟩) hHeld ?_
      refine wpAnyH_take (i := 4) (v := .agg #[.int .i64 x.irq, .int .i64 x.prio]) rfl (by kernel_rfl) (by kernel_rfl) (by kernel_rfl) (fun _ _ _ h => h) (Or.inl ⟨by rfl, by intro w hSw; obtain ⟨y0, y1⟩ := hSw; go_simp⟩) hHeld ?_
      clear hHeld
      refine held_gen (F := fun W' => Below w0.heap.size w0 W') (Below.refl w0.heap.size w0).drew ?_
      rintro W0 b0'
      refine wpAnyH_ready (rs := [0, 5]) (by kernel_rfl) (by decide) ?_
      refine AllReadyH.cons rfl (fun K0 hK0 => ?_) (AllReadyH.cons rfl (fun K0 hK0 => ?_) AllReadyH.nil)
      · go_simp
        refine hK0.out _ _ (SH _ (b0'.alloc b0'.size (.cells #[] 134))) (fun _ => ?_)
        obtain ⟨gS, hgS⟩ : ∃ g, g = W0.heap.size := ⟨_, rfl⟩
        have zgS : w0.heap.size ≤ gS := by rw [hgS]; exact b0'.size
        rw [← hgS]
        refine held_gen (F := fun W' => Below w0.heap.size w0 W' ∧ W'.ownsRow w0.heap.size 134 2 (.slice (some ⟨gS, 0, none⟩) 0 0) 0 [] ∧ gS < W'.heap.size) ⟨b0'.alloc b0'.size (.cells #[] 134), own_empty_at W0 (g := gS) 134 2 hgS b0'.size, by simp [hgS]⟩ ?_
        clear hgS
        rintro W1 ⟨b1, hS1, lS1⟩
        refine wpAnyH_ready (rs := [2, 5]) (by kernel_rfl) (by decide) ?_
        refine AllReadyH.cons rfl (fun K1 hK1 => ?_) (AllReadyH.cons rfl (fun K1 hK1 => ?_) AllReadyH.nil)
        · refine step_app_rd2 rfl _ _ 31 rfl w0.heap.size 134 i0 _ 2 _ Tryz.underlying31 hi0 hz0 hz1 hz2 rfl (by omega) Wt.cells_len Wt.one (.slice (some ⟨gS, 0, none⟩) 0 0) (0) [] rfl hS1 (A := A) (m := n) (c := c) (l := l) rfl (hrd.below b1 hh) (by unfold maxLen; omega) (by omega) b1.size ?_
          intro v2 W2 hS2 g2 e2
          have b2 : Below w0.heap.size w0 W2 := b1.grown g2 b1.size (own_ge hS1)
          refine hK1.out _ _ (SH _ b2) (fun _ => ?_)
          refine wpAnyH_ready (rs := [5]) (by kernel_rfl) (by decide) ?_
          refine AllReadyH.cons rfl (fun K2 hK2 => ?_) AllReadyH.nil
          · go_simp
            refine hK2.out _ _ (SH _ (b2.alloc b2.size (.cells #[.int .i64 x.irq, .int .i64 x.prio] 134))) (fun _ => ?_)
            obtain ⟨gX, hgX⟩ : ∃ g, g = W2.heap.size := ⟨_, rfl⟩
            have zgX : w0.heap.size ≤ gX := by rw [hgX]; exact b2.size
            rw [← hgX]
            refine held_gen (F := fun W' => Below w0.heap.size w0 W' ∧ (∀ (j : Nat) (u : Value), (Wt.cells x)[j]? = some u → W'.cell? ⟨gX, j, none⟩ = some u) ∧ W'.heap[gX]? = some (.cells #[.int .i64 x.irq, .int .i64 x.prio] 134 (0, 0)) ∧ gX < W'.heap.size ∧ W'.ownsRow w0.heap.size 134 2 v2 (0 + n) ([] ++ l.flatMap Wt.cells) ∧ (∀ g, v2.ownBlock = some g → g ≠ gX)) ⟨b2.alloc b2.size (.cells #[.int .i64 x.irq, .int .i64 x.prio] 134), fun j u hu => cell_new W2 _ _ hgX (by simpa [Wt.cells] using hu), by rw [hgX]; exact heap_alloc_new _ _, by simp [hgX], hS2.alloc (.cells #[.int .i64 x.irq, .int .i64 x.prio] 134), fun g hg e => by have := own_lt hS2 g hg; omega⟩ ?_
            clear hgX
            rintro W3 ⟨b3, hX3, lH3, lX3, hS3, lS3⟩
            refine wpAnyH_ready (rs := [6]) (by kernel_rfl) (by decide) ?_
            refine AllReadyH.cons rfl (fun K3 hK3 => ?_) AllReadyH.nil
            · go_simp
              refine (Wt.insert_any v2 l k x gX W3 w0 b3 (by have h := hS3; rw [Nat.zero_add, List.nil_append, H.out] at h; exact h) (by rw [← H.out]; exact hkn) (by rw [← H.out]; exact hn) lH3 (fun e => lS3 _ e rfl)).mono ?_
              rintro e_ Wz ⟨vz, rfl, hSz, bz⟩
              refine hK3.out _ _ (SH _ bz) (fun _ => ?_)
              refine wpAnyH_ready (rs := [7]) (by kernel_rfl) (by decide) ?_
              refine AllReadyH.cons rfl (fun K9 hK9 => ?_) AllReadyH.nil
              go_simp
              refine hK9.out _ _ (SH _ bz) (fun _ => ?_)
              refine ⟨by kernel_rfl, ?_⟩
              go_wp2_with fail
              go_ret
              have oS := Ow.of_own Wt.cells_len hSz (l := Wt.ins l x) (by rw [Wt.ins, HQ.out]) (by rw [Wt.ins_len])
              exact ⟨_, rfl, oS.mono bW.size (Nat.le_refl _), bW.trans (bz.mono bW.size)⟩
        · go_simp
          refine hK1.out _ _ (SH _ (b1.alloc b1.size (.cells #[.int .i64 x.irq, .int .i64 x.prio] 134))) (fun _ => ?_)
          obtain ⟨gX, hgX⟩ : ∃ g, g = W1.heap.size := ⟨_, rfl⟩
          have zgX : w0.heap.size ≤ gX := by rw [hgX]; exact b1.size
          have gne : gX ≠ gS := by have := lS1; omega
          rw [← hgX]
          refine held_gen (F := fun W' => Below w0.heap.size w0 W' ∧ (∀ (j : Nat) (u : Value), (Wt.cells x)[j]? = some u → W'.cell? ⟨gX, j, none⟩ = some u) ∧ W'.heap[gX]? = some (.cells #[.int .i64 x.irq, .int .i64 x.prio] 134 (0, 0)) ∧ gX < W'.heap.size ∧ W'.ownsRow w0.heap.size 134 2 (.slice (some ⟨gS, 0, none⟩) 0 0) 0 [] ∧ gS < W'.heap.size) ⟨b1.alloc b1.size (.cells #[.int .i64 x.irq, .int .i64 x.prio] 134), fun j u hu => cell_new W1 _ _ hgX (by simpa [Wt.cells] using hu), by rw [hgX]; exact heap_alloc_new _ _, by simp [hgX], hS1.alloc (.cells #[.int .i64 x.irq, .int .i64 x.prio] 134), by simp; have := lS1; omega⟩ ?_
          clear hgX
          rintro W2 ⟨b2, hX2, lH2, lX2, hS2, lS2⟩
          refine wpAnyH_ready (rs := [2]) (by kernel_rfl) (by decide) ?_
          refine AllReadyH.cons rfl (fun K2 hK2 => ?_) AllReadyH.nil
          · refine step_app_rd2 rfl _ _ 31 rfl w0.heap.size 134 i0 _ 2 _ Tryz.underlying31 hi0 hz0 hz1 hz2 rfl (by omega) Wt.cells_len Wt.one (.slice (some ⟨gS, 0, none⟩) 0 0) (0) [] rfl hS2 (A := A) (m := n) (c := c) (l := l) rfl (hrd.below b2 hh) (by unfold maxLen; omega) (by omega) b2.size ?_
            intro v3 W3 hS3 g3 e3
            have b3 : Below w0.heap.size w0 W3 := b2.grown g3 b2.size (own_ge hS2)
            refine hK2.out _ _ (SH _ b3) (fun _ => ?_)
            have hX3 : ∀ (j : Nat) (u : Value), (Wt.cells x)[j]? = some u → W3.cell? ⟨gX, j, none⟩ = some u := fun j u hu => g3.cell (hX2 j u hu) (by simp only [Value.ownBlock, ne_eq, Option.some.injEq]; omega)
            have lX3 : gX < W3.heap.size := by have := g3.size; have := lX2; omega
            have lH3 : W3.heap[gX]? = some (.cells #[.int .i64 x.irq, .int .i64 x.prio] 134 (0, 0)) := (g3.block gX lX2 (by simp only [Value.ownBlock, ne_eq, Option.some.injEq]; omega)).trans lH2
            have lS3 : ∀ g, v3.ownBlock = some g → g ≠ gX := fun g hg e => by
              rcases e3 with h | h
              · rw [h] at hg; simp only [Value.ownBlock, Option.some.injEq] at hg; omega
              · rw [h] at hg; simp only [Option.some.injEq] at hg; have := lX2; omega
            refine wpAnyH_ready (rs := [6]) (by kernel_rfl) (by decide) ?_
            refine AllReadyH.cons rfl (fun K3 hK3 => ?_) AllReadyH.nil
            · go_simp
              refine (Wt.insert_any v3 l k x gX W3 w0 b3 (by have h := hS3; rw [Nat.zero_add, List.nil_append, H.out] at h; exact h) (by rw [← H.out]; exact hkn) (by rw [← H.out]; exact hn) lH3 (fun e => lS3 _ e rfl)).mono ?_
              rintro e_ Wz ⟨vz, rfl, hSz, bz⟩
              refine hK3.out _ _ (SH _ bz) (fun _ => ?_)
              refine wpAnyH_ready (rs := [7]) (by kernel_rfl) (by decide) ?_
              refine AllReadyH.cons rfl (fun K9 hK9 => ?_) AllReadyH.nil
              go_simp
              refine hK9.out _ _ (SH _ bz) (fun _ => ?_)
              refine ⟨by kernel_rfl, ?_⟩
              go_wp2_with fail
              go_ret
              have oS := Ow.of_own Wt.cells_len hSz (l := Wt.ins l x) (by rw [Wt.ins, HQ.out]) (by rw [Wt.ins_len])
              exact ⟨_, rfl, oS.mono bW.size (Nat.le_refl _), bW.trans (bz.mono bW.size)⟩
      · go_simp
        refine hK0.out _ _ (SH _ (b0'.alloc b0'.size (.cells #[.int .i64 x.irq, .int .i64 x.prio] 134))) (fun _ => ?_)
        obtain ⟨gX, hgX⟩ : ∃ g, g = W0.heap.size := ⟨_, rfl⟩
        have zgX : w0.heap.size ≤ gX := by rw [hgX]; exact b0'.size
        rw [← hgX]
        refine held_gen (F := fun W' => Below w0.heap.size w0 W' ∧ (∀ (j : Nat) (u : Value), (Wt.cells x)[j]? = some u → W'.cell? ⟨gX, j, none⟩ = some u) ∧ W'.heap[gX]? = some (.cells #[.int .i64 x.irq, .int .i64 x.prio] 134 (0, 0)) ∧ gX < W'.heap.size) ⟨b0'.alloc b0'.size (.cells #[.int .i64 x.irq, .int .i64 x.prio] 134), fun j u hu => cell_new W0 _ _ hgX (by simpa [Wt.cells] using hu), by rw [hgX]; exact heap_alloc_new _ _, by simp [hgX]⟩ ?_
        clear hgX
        rintro W1 ⟨b1, hX1, lH1, lX1⟩
        refine wpAnyH_ready (rs := [0]) (by kernel_rfl) (by decide) ?_
        refine AllReadyH.cons rfl (fun K1 hK1 => ?_) AllReadyH.nil
        · go_simp
          refine hK1.out _ _ (SH _ (b1.alloc b1.size (.cells #[] 134))) (fun _ => ?_)
          obtain ⟨gS, hgS⟩ : ∃ g, g = W1.heap.size := ⟨_, rfl⟩
          have zgS : w0.heap.size ≤ gS := by rw [hgS]; exact b1.size
          have gne : gX ≠ gS := by have := lX1; omega
          rw [← hgS]
          refine held_gen (F := fun W' => Below w0.heap.size w0 W' ∧ W'.ownsRow w0.heap.size 134 2 (.slice (some ⟨gS, 0, none⟩) 0 0) 0 [] ∧ gS < W'.heap.size ∧ (∀ (j : Nat) (u : Value), (Wt.cells x)[j]? = some u → W'.cell? ⟨gX, j, none⟩ = some u) ∧ W'.heap[gX]? = some (.cells #[.int .i64 x.irq, .int .i64 x.prio] 134 (0, 0)) ∧ gX < W'.heap.size) ⟨b1.alloc b1.size (.cells #[] 134), own_empty_at W1 (g := gS) 134 2 hgS b1.size, by simp [hgS], fun j u hu => (World.cell?_alloc_lt _ _ _ (by have := lX1; exact this)).trans (hX1 j u hu), (heap_alloc_old _ _ lX1).trans lH1, by simp; have := lX1; omega⟩ ?_
          clear hgS
          rintro W2 ⟨b2, hS2, lS2, hX2, lH2, lX2⟩
          refine wpAnyH_ready (rs := [2]) (by kernel_rfl) (by decide) ?_
          refine AllReadyH.cons rfl (fun K2 hK2 => ?_) AllReadyH.nil
          · refine step_app_rd2 rfl _ _ 31 rfl w0.heap.size 134 i0 _ 2 _ Tryz.underlying31 hi0 hz0 hz1 hz2 rfl (by omega) Wt.cells_len Wt.one (.slice (some ⟨gS, 0, none⟩) 0 0) (0) [] rfl hS2 (A := A) (m := n) (c := c) (l := l) rfl (hrd.below b2 hh) (by unfold maxLen; omega) (by omega) b2.size ?_
            intro v3 W3 hS3 g3 e3
            have b3 : Below w0.heap.size w0 W3 := b2.grown g3 b2.size (own_ge hS2)
            refine hK2.out _ _ (SH _ b3) (fun _ => ?_)
            have hX3 : ∀ (j : Nat) (u : Value), (Wt.cells x)[j]? = some u → W3.cell? ⟨gX, j, none⟩ = some u := fun j u hu => g3.cell (hX2 j u hu) (by simp only [Value.ownBlock, ne_eq, Option.some.injEq]; omega)
            have lX3 : gX < W3.heap.size := by have := g3.size; have := lX2; omega
            have lH3 : W3.heap[gX]? = some (.cells #[.int .i64 x.irq, .int .i64 x.prio] 134 (0, 0)) := (g3.block gX lX2 (by simp only [Value.ownBlock, ne_eq, Option.some.injEq]; omega)).trans lH2
            have lS3 : ∀ g, v3.ownBlock = some g → g ≠ gX := fun g hg e => by
              rcases e3 with h | h
              · rw [h] at hg; simp only [Value.ownBlock, Option.some.injEq] at hg; omega
              · rw [h] at hg; simp only [Option.some.injEq] at hg; have := lX2; omega
            refine wpAnyH_ready (rs := [6]) (by kernel_rfl) (by decide) ?_
            refine AllReadyH.cons rfl (fun K3 hK3 => ?_) AllReadyH.nil
            · go_simp
              refine (Wt.insert_any v3 l k x gX W3 w0 b3 (by have h := hS3; rw [Nat.zero_add, List.nil_append, H.out] at h; exact h) (by rw [← H.out]; exact hkn) (by rw [← H.out]; exact hn) lH3 (fun e => lS3 _ e rfl)).mono ?_
              rintro e_ Wz ⟨vz, rfl, hSz, bz⟩
              refine hK3.out _ _ (SH _ bz) (fun _ => ?_)
              refine wpAnyH_ready (rs := [7]) (by kernel_rfl) (by decide) ?_
              refine AllReadyH.cons rfl (fun K9 hK9 => ?_) AllReadyH.nil
              go_simp
              refine hK9.out _ _ (SH _ bz) (fun _ => ?_)
              refine ⟨by kernel_rfl, ?_⟩
              go_wp2_with fail
              go_ret
              have oS := Ow.of_own Wt.cells_len hSz (l := Wt.ins l x) (by rw [Wt.ins, HQ.out]) (by rw [Wt.ins_len])
              exact ⟨_, rfl, oS.mono bW.size (Nat.le_refl _), bW.trans (bz.mono bW.size)⟩

end Go.Proofs.YtengaccnncnipaaGreat
