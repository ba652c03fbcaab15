/- Lemmas and walks that the last text of this claim leans on, part 7. No condition. -/
import Derived.Test.YtndfmkbpdoohfaaGreatMcFoF
/- Running ops on a processor interface, in the reference. Condition: at most 1048576 numbers, slots and waiters each. -/
namespace Go.Proofs.YtndfmkbpdoohfaaGreat
open Go.RowKit Go.ChangeShapes Go.WideShapes Go.Deep

theorem Op_.at_ {w : World} {lo hi b off n c k : Nat} {o : Op_} {l : List Op_} (h : Rd Op_.cells 3 w lo hi (.slice (some ⟨b, off, none⟩) n c) l) (hx : l[k]? = some o) : w.cell? ⟨b, off + k * 3, none⟩ = some (.int .i64 o.kind) ∧ w.cell? ⟨b, off + k * 3 + 1, none⟩ = some (.int .i64 o.irq) ∧ w.cell? ⟨b, off + k * 3 + 2, none⟩ = some (.int .i64 o.prio) := by
 obtain ⟨A, c', hv, _, _, h3⟩ := h
 injection hv with e1 e2 e3
 subst e1
 obtain ⟨b', off', hA, _, _, h4⟩ := h3 (by have := (List.getElem?_eq_some_iff.1 hx).1; omega)
 injection hA with hA
 injection hA with e4 e5
 subst e4; subst e5
 exact ⟨h4 k o hx 0 _ rfl, h4 k o hx 1 _ rfl, h4 k o hx 2 _ rfl⟩
/-- a row is kept where an own row of the same type has grown, whose block lies elsewhere -/
theorem Ow.grown_off {α : Type} {cells : α → List Value} {sz : Nat} {E : TypeId} {w w' : World} {lo hi : Nat} {v : Value} {l : List α} {row : Option Nat} (h : Ow cells sz E w lo hi v l) (hg : w.grownBy w' row) (hr : ∀ g, row = some g → g < lo ∨ hi ≤ g) : Ow cells sz E w' lo hi v l :=
 h.keep fun b h1 h2 h3 => hg.block b h3 (fun e => by have := hr b e.symm; omega)
/-- a row in a range of its own, apart from another range that does not hold its block -/
theorem Ow.narrow {α : Type} {cells : α → List Value} {sz : Nat} {E : TypeId} {w : World} {lo hi lo2 hi2 : Nat} {v : Value} {l : List α} (h : Ow cells sz E w lo hi v l) (hu : ∀ g, v.ownBlock = some g → g < lo2 ∨ hi2 ≤ g) : ∃ a b, lo ≤ a ∧ b ≤ hi ∧ (hi2 ≤ a ∨ b ≤ lo2) ∧ Ow cells sz E w a b v l := by
 obtain ⟨A, c, rfl, hc, hm, h⟩ := h
 rcases Nat.eq_zero_or_pos c with hz | hz
 ·exact ⟨lo, 0, Nat.le_refl _, Nat.zero_le _, Or.inr (Nat.zero_le _), A, c, rfl, hc, hm, fun hn => by omega⟩
 ·obtain ⟨b, off, cur, rfl, hb1, hb2, hh, hzz, hx⟩ := h hz
  have := hu b rfl
  exact ⟨b, b + 1, hb1, hb2, by omega, _, c, rfl, hc, hm, fun _ => ⟨b, off, cur, rfl, Nat.le_refl _, by omega, hh, hzz, hx⟩⟩
theorem Op_.all_pre {l : List Op_} {k : Nat} {o : Op_} (h : l[k]? = some o) : (l.take (k + 1)).all Op_.ok = ((l.take k).all Op_.ok && o.ok) := by
 rw [List.take_add_one, h, List.all_append]; simp
theorem Op_.all_no {l : List Op_} {k : Nat} {o : Op_} (h : l[k]? = some o) (ho : o.ok = false) : l.all Op_.ok = false := by
 rw [List.all_eq_false]
 exact ⟨o, List.mem_of_getElem? h, by simp [ho]⟩
theorem Op_.any_bad (l : List Op_) : (l.any fun t => !t.ok) = !l.all Op_.ok := by induction l <;> simp_all
theorem Op_.kind3 {o : Op_} (h : o.ok = true) (h1 : ¬ o.kind = 1) (h2 : ¬ o.kind = 2) (h4 : ¬ o.kind = 4) : o.kind = 3 := by
 rcases (Op_.ok_iff o).1 h with h | h | h
 ·exact absurd h.1 h1
 ·rcases h.1 with h | h
  ·exact absurd h h2
  ·exact h
 ·exact absurd h.1 h4
theorem FS.next_rose {p : FS × List Int} {o : Op_} (h : o.kind = 1) : FS.next p o = (p.1.rose o.irq o.prio, p.2) := by simp [FS.next, FS.step, FS.got, h]
theorem FS.next_took {p : FS × List Int} {o : Op_} (h : o.kind = 2) (hk : p.1.tk = true) : FS.next p o = (p.1.took, p.2 ++ [Sl.tkI p.1.ls]) := by simp [FS.next, FS.step, FS.got, h, hk]
theorem FS.next_none {p : FS × List Int} {o : Op_} (h : o.kind = 2) (hk : p.1.tk = false) : FS.next p o = p := by simp [FS.next, FS.step, FS.got, h, hk]
theorem FS.next_left {p : FS × List Int} {o : Op_} (h : o.kind = 3) (hz : ¬ p.1.st.length = 0) : FS.next p o = (p.1.left, p.2) := by simp [FS.next, FS.step, FS.got, h, hz]
theorem FS.next_nil {p : FS × List Int} {o : Op_} (h : o.kind = 3) (hz : p.1.st.length = 0) : FS.next p o = p := by simp [FS.next, FS.step, FS.got, h, hz]
theorem FS.next_mask {p : FS × List Int} {o : Op_} (h : o.kind = 4) : FS.next p o = (p.1.masked o.prio, p.2) := by simp [FS.next, FS.step, FS.got, h]

set_option maxHeartbeats 8000000 in
theorem specRunOps_any (m : Int) (vt vs vw : Value) (st : List Int) (ls : List Sl) (lw : List Wt) (w : World) {lo hi lo2 hi2 lo3 hi3 : Nat} (h0 : Rd Nm.cells 1 w lo3 hi3 vt st) (h : Rd Sl.cells 3 w lo hi vs ls) (h2 : Rd Wt.cells 2 w lo2 hi2 vw lw) (hh0 : hi3 ≤ w.heap.size) (hh : hi ≤ w.heap.size) (hh2 : hi2 ≤ w.heap.size) (vo : Value) (ops : List Op_) {lo4 hi4 : Nat} (h4 : Rd Op_.cells 3 w lo4 hi4 vo ops) (hh4 : hi4 ≤ w.heap.size) (hl : st.length ≤ 1048576) (hl1 : ls.length ≤ 1048576) (hl2 : lw.length ≤ 1048576) :
  Calls Tryz.prog 28 #[.agg #[.int .i64 m, vt, vs, vw], vo] w fun e w' => ∃ v0 v1 v2 v3, ∃ q0 q1 q2 q3 : Nat, e = .returned (.tuple #[.agg #[.int .i64 (FS.roS ⟨m, st, ls, lw⟩ ops).m, v0, v1, v2], v3, .bool (FS.roOk ⟨m, st, ls, lw⟩ ops)]) ∧ Ow Nm.cells 1 3 w' q0 q1 v0 (FS.roS ⟨m, st, ls, lw⟩ ops).st ∧ Ow Sl.cells 3 93 w' q0 q1 v1 (FS.roS ⟨m, st, ls, lw⟩ ops).ls ∧ Ow Wt.cells 2 107 w' q0 q1 v2 (FS.roS ⟨m, st, ls, lw⟩ ops).lw ∧ Ow Nm.cells 1 3 w' q2 q3 v3 (FS.roT ⟨m, st, ls, lw⟩ ops) ∧ w.heap.size ≤ q0 ∧ q1 ≤ w'.heap.size ∧ w.heap.size ≤ q2 ∧ q3 ≤ w'.heap.size ∧ (q1 ≤ q2 ∨ q3 ≤ q0) ∧ Below w.heap.size w w' := by
 have b0 : Below w.heap.size w ((w.alloc (.cells #[.int .i64 m, vt, vs, vw] 30)).alloc (.cells #[.int .i64 0, .slice none 0 0, .slice none 0 0, .slice none 0 0] 30)) := ((Below.refl w.heap.size w).alloc (Nat.le_refl _) _).alloc (by simp) _
 have z0 : ((w.alloc (.cells #[.int .i64 m, vt, vs, vw] 30)).alloc (.cells #[.int .i64 0, .slice none 0 0, .slice none 0 0, .slice none 0 0] 30)).heap.size = w.heap.size + 2 := by simp
 have bx := Box.new w #[.int .i64 m, vt, vs, vw] 30 rfl
 have bR := Box.new (g := w.heap.size + 1) (w.alloc (.cells #[.int .i64 m, vt, vs, vw] 30)) #[.int .i64 0, .slice none 0 0, .slice none 0 0, .slice none 0 0] 30 (by simp)
 replace bx := bx.below ((Below.refl _ (w.alloc (.cells #[.int .i64 m, vt, vs, vw] 30))).alloc (Nat.le_refl _) (.cells #[.int .i64 0, .slice none 0 0, .slice none 0 0, .slice none 0 0] 30)) bx.lt
 have ht := h0.below b0 hh0
 have hs := h.below b0 hh
 have hw := h2.below b0 hh2
 have hv0_ := h0.form
 have hv_ := h.form
 have hv2_ := h2.form
 have ho4 := h4.below b0 hh4
 have hv4_ := h4.form
 clear h0 h h2 h4
 generalize hwA : (w.alloc (.cells #[.int .i64 m, vt, vs, vw] 30)).alloc (.cells #[.int .i64 0, .slice none 0 0, .slice none 0 0, .slice none 0 0] 30) = wA at *
 obtain ⟨At, nt, dt, rfl, _, _, _⟩ := hv0_
 obtain ⟨A0, n0, d0, rfl, _, _, _⟩ := hv_
 obtain ⟨A1, n1, d1, rfl, _, _, _⟩ := hv2_
 obtain ⟨A6, n6, d6, rfl, H6, hd6, hm6⟩ := hv4_
 have hn6 : n6 ≤ ops.length := Nat.le_of_eq H6.out
 cases hg : FS.good ⟨m, st, ls, lw⟩
 ·have HF := Lib.hid (FS.ro_no (s := ⟨m, st, ls, lw⟩) (l := ops) (by simp [FS.roOk, hg]))
  have HG := Lib.hid (show Fa.good m st ls lw = false from hg)
  clear hg
  go_enter Tryz.func28, Tryz.ntmps28
  have bx_0 := bx.c0
  have bx_1 := bx.c1
  have bx_2 := bx.c2
  have bx_3 := bx.c3
  have bx_z := bx.frozen
  have bx_l := bx.lt
  have bR_0 := bR.c0
  have bR_1 := bR.c1
  have bR_2 := bR.c2
  have bR_3 := bR.c3
  have bR_z := bR.frozen
  have bR_l := bR.lt
  go_wp2_with fail
  clear hwA
  clear bx_0 bx_1 bx_2 bx_3 bx_z bx_l bR_0 bR_1 bR_2 bR_3 bR_z bR_l
  have oK := own_empty_at wA (base := w.heap.size + 2) (g := w.heap.size + 2) 3 1 z0.symm (by omega)
  have bE := (Below.refl wA.heap.size wA).alloc (Nat.le_refl _) (.cells #[] 3)
  have zE : (wA.alloc (.cells #[] 3)).heap.size = w.heap.size + 3 := by simp [z0]
  replace bx := bx.below bE bx.lt
  replace bR := bR.below bE bR.lt
  replace ht := ht.below bE (by omega)
  replace hs := hs.below bE (by omega)
  replace hw := hw.below bE (by omega)
  replace ho4 := ho4.below bE (by omega)
  have z_1 := bE.size
  replace b0 := b0.trans (bE.mono (by omega))
  clear bE
  generalize wA.alloc _ = wB at *
  have c1 := l10Good_any m _ _ _ st ls lw wB ht hs hw (by omega) (by omega) (by omega)
  rw [HG.out] at c1
  refine (c1).mono ?_; rintro q_ w2 ⟨rfl, b_2⟩
  replace bx := bx.below b_2 bx.lt
  replace bR := bR.below b_2 bR.lt
  replace ht := ht.below b_2 (by omega)
  replace hs := hs.below b_2 (by omega)
  replace hw := hw.below b_2 (by omega)
  replace ho4 := ho4.below b_2 (by omega)
  replace oK := own_below oK b_2
  have z_3 := b_2.size
  replace b0 := b0.trans (b_2.mono (by omega))
  clear b_2
  have bx_0 := bx.c0
  have bx_1 := bx.c1
  have bx_2 := bx.c2
  have bx_3 := bx.c3
  have bx_z := bx.frozen
  have bx_l := bx.lt
  have bR_0 := bR.c0
  have bR_1 := bR.c1
  have bR_2 := bR.c2
  have bR_3 := bR.c3
  have bR_z := bR.frozen
  have bR_l := bR.lt
  go_wp2_with fail
  clear bx_0 bx_1 bx_2 bx_3 bx_z bx_l bR_0 bR_1 bR_2 bR_3 bR_z bR_l
  generalize hwz : World.setCell (World.setCell (World.setCell (World.setCell _ _ _) _ _) _ _) _ _ = wz_
  obtain rfl : wz_ = setL w2 (w.heap.size + 1) 0 [.int .i64 0, .slice none 0 0, .slice none 0 0, .slice none 0 0] := hwz.symm
  clear hwz
  replace bx := bx.other (b := w.heap.size + 1) (by omega) 0 [.int .i64 0, .slice none 0 0, .slice none 0 0, .slice none 0 0]
  replace ht := ht.away (g := w.heap.size + 1) (by omega) 0 [.int .i64 0, .slice none 0 0, .slice none 0 0, .slice none 0 0]
  replace hs := hs.away (g := w.heap.size + 1) (by omega) 0 [.int .i64 0, .slice none 0 0, .slice none 0 0, .slice none 0 0]
  replace hw := hw.away (g := w.heap.size + 1) (by omega) 0 [.int .i64 0, .slice none 0 0, .slice none 0 0, .slice none 0 0]
  replace ho4 := ho4.away (g := w.heap.size + 1) (by omega) 0 [.int .i64 0, .slice none 0 0, .slice none 0 0, .slice none 0 0]
  replace oK := own_box oK bR (by decide) 0 [.int .i64 0, .slice none 0 0, .slice none 0 0, .slice none 0 0]
  replace b0 := setL_below b0 [.int .i64 0, .slice none 0 0, .slice none 0 0, .slice none 0 0] (w.heap.size + 1) 0 (by omega)
  have zs_4 : (setL w2 (w.heap.size + 1) 0 [.int .i64 0, .slice none 0 0, .slice none 0 0, .slice none 0 0]).heap.size = w2.heap.size := setL_size _ _ _ _
  replace bR := bR.setAll [.int .i64 0, .slice none 0 0, .slice none 0 0, .slice none 0 0] rfl
  generalize setL w2 _ 0 _ = w4 at *
  have u0_ := bR.c0
  have u1_ := bR.c1
  have u2_ := bR.c2
  have u3_ := bR.c3
  refine bodyPost_ret (by simp only [results, Tryz.results28]; simp [go_sem, u0_, u1_, u2_, u3_]; rfl) rfl ?_
  exact ⟨_, _, _, _, w.heap.size, w.heap.size, w.heap.size, w.heap.size, by rw [HF.out.1, HF.out.2.1], by rw [HF.out.2.1]; exact Ow.nil_, by rw [HF.out.2.1]; exact Ow.nil_, by rw [HF.out.2.1]; exact Ow.nil_, by rw [HF.out.2.2]; exact Ow.lit0, Nat.le_refl _, b0.size, Nat.le_refl _, b0.size, Or.inl (Nat.le_refl _), b0⟩
 ·by_cases h20 : 20 < n6
  ·have HF := Lib.hid (FS.ro_no (s := ⟨m, st, ls, lw⟩) (l := ops) (by simp [FS.roOk]; intro _ _; omega))
   have h20d : decide ((20 : Int) < (n6 : Int)) = true := decide_eq_true (by omega)
   clear h20
   have HG := Lib.hid (show Fa.good m st ls lw = true from hg)
   clear hg
   go_enter Tryz.func28, Tryz.ntmps28
   have bx_0 := bx.c0
   have bx_1 := bx.c1
   have bx_2 := bx.c2
   have bx_3 := bx.c3
   have bx_z := bx.frozen
   have bx_l := bx.lt
   have bR_0 := bR.c0
   have bR_1 := bR.c1
   have bR_2 := bR.c2
   have bR_3 := bR.c3
   have bR_z := bR.frozen
   have bR_l := bR.lt
   go_wp2_with fail
   clear hwA
   clear bx_0 bx_1 bx_2 bx_3 bx_z bx_l bR_0 bR_1 bR_2 bR_3 bR_z bR_l
   have oK := own_empty_at wA (base := w.heap.size + 2) (g := w.heap.size + 2) 3 1 z0.symm (by omega)
   have bE := (Below.refl wA.heap.size wA).alloc (Nat.le_refl _) (.cells #[] 3)
   have zE : (wA.alloc (.cells #[] 3)).heap.size = w.heap.size + 3 := by simp [z0]
   replace bx := bx.below bE bx.lt
   replace bR := bR.below bE bR.lt
   replace ht := ht.below bE (by omega)
   replace hs := hs.below bE (by omega)
   replace hw := hw.below bE (by omega)
   replace ho4 := ho4.below bE (by omega)
   have z_1 := bE.size
   replace b0 := b0.trans (bE.mono (by omega))
   clear bE
   generalize wA.alloc _ = wB at *
   have c1 := l10Good_any m _ _ _ st ls lw wB ht hs hw (by omega) (by omega) (by omega)
   rw [HG.out] at c1
   refine (c1).mono ?_; rintro q_ w2 ⟨rfl, b_2⟩
   replace bx := bx.below b_2 bx.lt
   replace bR := bR.below b_2 bR.lt
   replace ht := ht.below b_2 (by omega)
   replace hs := hs.below b_2 (by omega)
   replace hw := hw.below b_2 (by omega)
   replace ho4 := ho4.below b_2 (by omega)
   replace oK := own_below oK b_2
   have z_3 := b_2.size
   replace b0 := b0.trans (b_2.mono (by omega))
   clear b_2
   have bx_0 := bx.c0
   have bx_1 := bx.c1
   have bx_2 := bx.c2
   have bx_3 := bx.c3
   have bx_z := bx.frozen
   have bx_l := bx.lt
   have bR_0 := bR.c0
   have bR_1 := bR.c1
   have bR_2 := bR.c2
   have bR_3 := bR.c3
   have bR_z := bR.frozen
   have bR_l := bR.lt
   go_wp2_with fail
   clear bx_0 bx_1 bx_2 bx_3 bx_z bx_l bR_0 bR_1 bR_2 bR_3 bR_z bR_l
   generalize hwz : World.setCell (World.setCell (World.setCell (World.setCell _ _ _) _ _) _ _) _ _ = wz_
   obtain rfl : wz_ = setL w2 (w.heap.size + 1) 0 [.int .i64 0, .slice none 0 0, .slice none 0 0, .slice none 0 0] := hwz.symm
   clear hwz
   replace bx := bx.other (b := w.heap.size + 1) (by omega) 0 [.int .i64 0, .slice none 0 0, .slice none 0 0, .slice none 0 0]
   replace ht := ht.away (g := w.heap.size + 1) (by omega) 0 [.int .i64 0, .slice none 0 0, .slice none 0 0, .slice none 0 0]
   replace hs := hs.away (g := w.heap.size + 1) (by omega) 0 [.int .i64 0, .slice none 0 0, .slice none 0 0, .slice none 0 0]
   replace hw := hw.away (g := w.heap.size + 1) (by omega) 0 [.int .i64 0, .slice none 0 0, .slice none 0 0, .slice none 0 0]
   replace ho4 := ho4.away (g := w.heap.size + 1) (by omega) 0 [.int .i64 0, .slice none 0 0, .slice none 0 0, .slice none 0 0]
   replace oK := own_box oK bR (by decide) 0 [.int .i64 0, .slice none 0 0, .slice none 0 0, .slice none 0 0]
   replace b0 := setL_below b0 [.int .i64 0, .slice none 0 0, .slice none 0 0, .slice none 0 0] (w.heap.size + 1) 0 (by omega)
   have zs_4 : (setL w2 (w.heap.size + 1) 0 [.int .i64 0, .slice none 0 0, .slice none 0 0, .slice none 0 0]).heap.size = w2.heap.size := setL_size _ _ _ _
   replace bR := bR.setAll [.int .i64 0, .slice none 0 0, .slice none 0 0, .slice none 0 0] rfl
   generalize setL w2 _ 0 _ = w4 at *
   have u0_ := bR.c0
   have u1_ := bR.c1
   have u2_ := bR.c2
   have u3_ := bR.c3
   refine bodyPost_ret (by simp only [results, Tryz.results28]; simp [go_sem, u0_, u1_, u2_, u3_]; rfl) rfl ?_
   exact ⟨_, _, _, _, w.heap.size, w.heap.size, w.heap.size, w.heap.size, by rw [HF.out.1, HF.out.2.1], by rw [HF.out.2.1]; exact Ow.nil_, by rw [HF.out.2.1]; exact Ow.nil_, by rw [HF.out.2.1]; exact Ow.nil_, by rw [HF.out.2.2]; exact Ow.lit0, Nat.le_refl _, b0.size, Nat.le_refl _, b0.size, Or.inl (Nat.le_refl _), b0⟩
  ·have HG0 := Lib.hid hg
   have h20d : decide ((20 : Int) < (n6 : Int)) = false := decide_eq_false (by omega)
   have HG := Lib.hid (show Fa.good m st ls lw = true from hg)
   clear hg
   go_enter Tryz.func28, Tryz.ntmps28
   have bx_0 := bx.c0
   have bx_1 := bx.c1
   have bx_2 := bx.c2
   have bx_3 := bx.c3
   have bx_z := bx.frozen
   have bx_l := bx.lt
   have bR_0 := bR.c0
   have bR_1 := bR.c1
   have bR_2 := bR.c2
   have bR_3 := bR.c3
   have bR_z := bR.frozen
   have bR_l := bR.lt
   go_wp2_with fail
   clear hwA
   clear bx_0 bx_1 bx_2 bx_3 bx_z bx_l bR_0 bR_1 bR_2 bR_3 bR_z bR_l
   have oK := own_empty_at wA (base := w.heap.size + 2) (g := w.heap.size + 2) 3 1 z0.symm (by omega)
   have bE := (Below.refl wA.heap.size wA).alloc (Nat.le_refl _) (.cells #[] 3)
   have zE : (wA.alloc (.cells #[] 3)).heap.size = w.heap.size + 3 := by simp [z0]
   replace bx := bx.below bE bx.lt
   replace bR := bR.below bE bR.lt
   replace ht := ht.below bE (by omega)
   replace hs := hs.below bE (by omega)
   replace hw := hw.below bE (by omega)
   replace ho4 := ho4.below bE (by omega)
   have z_1 := bE.size
   replace b0 := b0.trans (bE.mono (by omega))
   clear bE
   generalize wA.alloc _ = wB at *
   have c1 := l10Good_any m _ _ _ st ls lw wB ht hs hw (by omega) (by omega) (by omega)
   rw [HG.out] at c1
   refine (c1).mono ?_; rintro q_ w2 ⟨rfl, b_2⟩
   replace bx := bx.below b_2 bx.lt
   replace bR := bR.below b_2 bR.lt
   replace ht := ht.below b_2 (by omega)
   replace hs := hs.below b_2 (by omega)
   replace hw := hw.below b_2 (by omega)
   replace ho4 := ho4.below b_2 (by omega)
   replace oK := own_below oK b_2
   have z_3 := b_2.size
   replace b0 := b0.trans (b_2.mono (by omega))
   clear b_2
   have bx_0 := bx.c0
   have bx_1 := bx.c1
   have bx_2 := bx.c2
   have bx_3 := bx.c3
   have bx_z := bx.frozen
   have bx_l := bx.lt
   have bR_0 := bR.c0
   have bR_1 := bR.c1
   have bR_2 := bR.c2
   have bR_3 := bR.c3
   have bR_z := bR.frozen
   have bR_l := bR.lt
   go_wp2_with fail
   clear bx_0 bx_1 bx_2 bx_3 bx_z bx_l bR_0 bR_1 bR_2 bR_3 bR_z bR_l
   go_loopw [8] (fun i wr => ∃ k : Nat, k ≤ n6 ∧ i = .int .i64 k ∧ Below w2.heap.size w2 wr ∧ Hid ((ops.take k).all Op_.ok = true)) (fun i _ => n6 - (intOf i).toNat)
   case atStart => exact ⟨0, Nat.zero_le _, rfl, Below.refl _ _, Lib.hid rfl⟩
   case round =>
    obtain ⟨k, hk, rfl, hb, HE⟩ := hrel
    have hb0 := hb
    replace bx := bx.below hb bx.lt
    replace bR := bR.below hb bR.lt
    replace ht := ht.below hb (by omega)
    replace hs := hs.below hb (by omega)
    replace hw := hw.below hb (by omega)
    replace ho4 := ho4.below hb (by omega)
    replace oK := own_below oK hb
    have z_4 := hb.size
    replace b0 := b0.trans (hb.mono (by omega))
    clear hb
    by_cases hlt : k < n6
    ·obtain ⟨b, off, o, rfl, HO, _, hbh, f0, f1, f2⟩ := Op_.get ho4 hlt (Below.refl wr.heap.size wr) (by omega)
     have hki : (k : Int) < (n6 : Int) := by omega
     have c2 := l10Op_any o wr
     unfold Op_.val at c2
     cases hq : o.ok
     ·have HF := Lib.hid (FS.ro_no (s := ⟨m, st, ls, lw⟩) (l := ops) (by simp [FS.roOk, Op_.all_no HO.out hq]))
      rw [hq] at c2
      clear hq hb0
      have bx_0 := bx.c0
      have bx_1 := bx.c1
      have bx_2 := bx.c2
      have bx_3 := bx.c3
      have bx_z := bx.frozen
      have bx_l := bx.lt
      have bR_0 := bR.c0
      have bR_1 := bR.c1
      have bR_2 := bR.c2
      have bR_3 := bR.c3
      have bR_z := bR.frozen
      have bR_l := bR.lt
      go_wp2_with fail
      clear bx_0 bx_1 bx_2 bx_3 bx_z bx_l bR_0 bR_1 bR_2 bR_3 bR_z bR_l
      refine (c2).mono ?_; rintro q_ w5 ⟨rfl, b_5⟩
      replace bx := bx.below b_5 bx.lt
      replace bR := bR.below b_5 bR.lt
      replace ht := ht.below b_5 (by omega)
      replace hs := hs.below b_5 (by omega)
      replace hw := hw.below b_5 (by omega)
      replace ho4 := ho4.below b_5 (by omega)
      replace oK := own_below oK b_5
      have z_6 := b_5.size
      replace b0 := b0.trans (b_5.mono (by omega))
      clear b_5
      have bx_0 := bx.c0
      have bx_1 := bx.c1
      have bx_2 := bx.c2
      have bx_3 := bx.c3
      have bx_z := bx.frozen
      have bx_l := bx.lt
      have bR_0 := bR.c0
      have bR_1 := bR.c1
      have bR_2 := bR.c2
      have bR_3 := bR.c3
      have bR_z := bR.frozen
      have bR_l := bR.lt
      go_wp2_with fail
      clear bx_0 bx_1 bx_2 bx_3 bx_z bx_l bR_0 bR_1 bR_2 bR_3 bR_z bR_l
      generalize hwz : World.setCell (World.setCell (World.setCell (World.setCell _ _ _) _ _) _ _) _ _ = wz_
      obtain rfl : wz_ = setL w5 (w.heap.size + 1) 0 [.int .i64 0, .slice none 0 0, .slice none 0 0, .slice none 0 0] := hwz.symm
      clear hwz
      replace bx := bx.other (b := w.heap.size + 1) (by omega) 0 [.int .i64 0, .slice none 0 0, .slice none 0 0, .slice none 0 0]
      replace ht := ht.away (g := w.heap.size + 1) (by omega) 0 [.int .i64 0, .slice none 0 0, .slice none 0 0, .slice none 0 0]
      replace hs := hs.away (g := w.heap.size + 1) (by omega) 0 [.int .i64 0, .slice none 0 0, .slice none 0 0, .slice none 0 0]
      replace hw := hw.away (g := w.heap.size + 1) (by omega) 0 [.int .i64 0, .slice none 0 0, .slice none 0 0, .slice none 0 0]
      replace ho4 := ho4.away (g := w.heap.size + 1) (by omega) 0 [.int .i64 0, .slice none 0 0, .slice none 0 0, .slice none 0 0]
      replace oK := own_box oK bR (by decide) 0 [.int .i64 0, .slice none 0 0, .slice none 0 0, .slice none 0 0]
      replace b0 := setL_below b0 [.int .i64 0, .slice none 0 0, .slice none 0 0, .slice none 0 0] (w.heap.size + 1) 0 (by omega)
      have zs_7 : (setL w5 (w.heap.size + 1) 0 [.int .i64 0, .slice none 0 0, .slice none 0 0, .slice none 0 0]).heap.size = w5.heap.size := setL_size _ _ _ _
      replace bR := bR.setAll [.int .i64 0, .slice none 0 0, .slice none 0 0, .slice none 0 0] rfl
      generalize setL w5 _ 0 _ = w7 at *
      have u0_ := bR.c0
      have u1_ := bR.c1
      have u2_ := bR.c2
      have u3_ := bR.c3
      refine bodyPost_ret (by simp only [results, Tryz.results28]; simp [go_sem, u0_, u1_, u2_, u3_]; rfl) rfl ?_
      exact ⟨_, _, _, _, w.heap.size, w.heap.size, w.heap.size, w.heap.size, by rw [HF.out.1, HF.out.2.1], by rw [HF.out.2.1]; exact Ow.nil_, by rw [HF.out.2.1]; exact Ow.nil_, by rw [HF.out.2.1]; exact Ow.nil_, by rw [HF.out.2.2]; exact Ow.lit0, Nat.le_refl _, b0.size, Nat.le_refl _, b0.size, Or.inl (Nat.le_refl _), b0⟩
     ·have HE2 := Lib.hid (show (ops.take (k + 1)).all Op_.ok = true from by rw [Op_.all_pre HO.out, HE.out, hq]; rfl)
      rw [hq] at c2
      clear hq
      have bx_0 := bx.c0
      have bx_1 := bx.c1
      have bx_2 := bx.c2
      have bx_3 := bx.c3
      have bx_z := bx.frozen
      have bx_l := bx.lt
      have bR_0 := bR.c0
      have bR_1 := bR.c1
      have bR_2 := bR.c2
      have bR_3 := bR.c3
      have bR_z := bR.frozen
      have bR_l := bR.lt
      go_wp2_with fail
      clear bx_0 bx_1 bx_2 bx_3 bx_z bx_l bR_0 bR_1 bR_2 bR_3 bR_z bR_l
      refine (c2).mono ?_; rintro q_ w5 ⟨rfl, b_5⟩
      replace bx := bx.below b_5 bx.lt
      replace bR := bR.below b_5 bR.lt
      replace ht := ht.below b_5 (by omega)
      replace hs := hs.below b_5 (by omega)
      replace hw := hw.below b_5 (by omega)
      replace ho4 := ho4.below b_5 (by omega)
      replace oK := own_below oK b_5
      replace hb0 := hb0.trans (b_5.mono hb0.size)
      have z_6 := b_5.size
      replace b0 := b0.trans (b_5.mono (by omega))
      clear b_5
      have bx_0 := bx.c0
      have bx_1 := bx.c1
      have bx_2 := bx.c2
      have bx_3 := bx.c3
      have bx_z := bx.frozen
      have bx_l := bx.lt
      have bR_0 := bR.c0
      have bR_1 := bR.c1
      have bR_2 := bR.c2
      have bR_3 := bR.c3
      have bR_z := bR.frozen
      have bR_l := bR.lt
      go_wp2_with fail
      clear bx_0 bx_1 bx_2 bx_3 bx_z bx_l bR_0 bR_1 bR_2 bR_3 bR_z bR_l
      go_roundw
      case rel => exact ⟨k + 1, by omega, by go_num, hb0, HE2⟩
      case measure => simp [intOf]; omega
    ·have hA : ops.all Op_.ok = true := by
      have h3 := HE.out
      rwa [List.take_of_length_le (by rw [← H6.out]; omega)] at h3
     have HF := Lib.hid (FS.ro_yes (s := ⟨m, st, ls, lw⟩) (l := ops) (by have h6 := H6.out; simp [FS.roOk, HG0.out, hA]; omega))
     have HA := Lib.hid hA
     clear hA HE hb0
     have bx_0 := bx.c0
     have bx_1 := bx.c1
     have bx_2 := bx.c2
     have bx_3 := bx.c3
     have bx_z := bx.frozen
     have bx_l := bx.lt
     have bR_0 := bR.c0
     have bR_1 := bR.c1
     have bR_2 := bR.c2
     have bR_3 := bR.c3
     have bR_z := bR.frozen
     have bR_l := bR.lt
     go_wp2_with fail
     clear bx_0 bx_1 bx_2 bx_3 bx_z bx_l bR_0 bR_1 bR_2 bR_3 bR_z bR_l
     refine (specOwnF_any m _ _ _ st ls lw wr ht hs hw (by omega) (by omega) (by omega) hl hl1 hl2).mono ?_; rintro q_ w5 ⟨v3, v4, v5, rfl, o3, o4, o5, b_5⟩
     replace bx := bx.below b_5 bx.lt
     replace bR := bR.below b_5 bR.lt
     replace ht := ht.below b_5 (by omega)
     replace hs := hs.below b_5 (by omega)
     replace hw := hw.below b_5 (by omega)
     replace ho4 := ho4.below b_5 (by omega)
     replace oK := own_below oK b_5
     have z_6 := b_5.size
     replace b0 := b0.trans (b_5.mono (by omega))
     clear b_5
     obtain ⟨B3, m3, e3, rfl, _, _, _⟩ := o3.rd.form
     obtain ⟨B4, m4, e4, rfl, _, _, _⟩ := o4.rd.form
     obtain ⟨B5, m5, e5, rfl, _, _, _⟩ := o5.rd.form
     have bx_0 := bx.c0
     have bx_1 := bx.c1
     have bx_2 := bx.c2
     have bx_3 := bx.c3
     have bx_z := bx.frozen
     have bx_l := bx.lt
     have bR_0 := bR.c0
     have bR_1 := bR.c1
     have bR_2 := bR.c2
     have bR_3 := bR.c3
     have bR_z := bR.frozen
     have bR_l := bR.lt
     go_upto_region 10 with fail
     clear bx_0 bx_1 bx_2 bx_3 bx_z bx_l bR_0 bR_1 bR_2 bR_3 bR_z bR_l
     have b_7 := (Below.refl w5.heap.size w5).alloc (Nat.le_refl _) (.cells #[.int .i64 m, .slice B3 m3 e3, .slice B4 m4 e4, .slice B5 m5 e5] 30)
     have bO := Box.new w5 #[.int .i64 m, .slice B3 m3 e3, .slice B4 m4 e4, .slice B5 m5 e5] 30 rfl
     replace bx := bx.below b_7 bx.lt
     replace bR := bR.below b_7 bR.lt
     replace ht := ht.below b_7 (by omega)
     replace hs := hs.below b_7 (by omega)
     replace hw := hw.below b_7 (by omega)
     replace ho4 := ho4.below b_7 (by omega)
     replace o3 := o3.below b_7 (by omega)
     replace o4 := o4.below b_7 (by omega)
     replace o5 := o5.below b_7 (by omega)
     replace oK := own_below oK b_7
     have z_8 := b_7.size
     replace b0 := b0.trans (b_7.mono (by omega))
     clear b_7
     generalize w5.alloc _ = w7 at *
     generalize w5.heap.size = g7 at *
     clear bx ht hs hw
     have zgO : w.heap.size + 2 ≤ g7 := by omega
     generalize hgO : g7 = gO at *
     clear hgO
     have bR_0 := bR.c0
     have bR_1 := bR.c1
     have bR_2 := bR.c2
     have bR_3 := bR.c3
     have bR_z := bR.frozen
     have bR_l := bR.lt
     have bO_0 := bO.c0
     have bO_1 := bO.c1
     have bO_2 := bO.c2
     have bO_3 := bO.c3
     have bO_z := bO.frozen
     have bO_l := bO.lt
     go_wp2_with fail
     clear bR_0 bR_1 bR_2 bR_3 bR_z bR_l bO_0 bO_1 bO_2 bO_3 bO_z bO_l
     go_loopw [7, 10] (fun u7 u10 wr => ∃ (k j : Nat) (S : FS) (xs : List Int) (At A0 A1 : Option Addr) (nt dt n0 d0 n1 d1 lo hi : Nat), k ≤ n6 ∧ u10 = .int .i64 k ∧ Hid (FS.runs (⟨m, st, ls, lw⟩, []) (ops.take k) = (S, xs)) ∧ Hid (S.good = true) ∧ Hid (j = xs.length) ∧ j ≤ k ∧ Below w.heap.size w wr ∧ w.heap.size + 2 ≤ wr.heap.size ∧ Box wr gO 30 [.int .i64 S.m, .slice At nt dt, .slice A0 n0 d0, .slice A1 n1 d1] ∧ Box wr (w.heap.size + 1) 30 [.int .i64 0, .slice none 0 0, .slice none 0 0, .slice none 0 0] ∧ Ow Nm.cells 1 3 wr lo hi (.slice At nt dt) S.st ∧ Ow Sl.cells 3 93 wr lo hi (.slice A0 n0 d0) S.ls ∧ Ow Wt.cells 2 107 wr lo hi (.slice A1 n1 d1) S.lw ∧ w.heap.size ≤ lo ∧ hi ≤ wr.heap.size ∧ (∀ g, u7.ownBlock = some g → g < lo ∨ hi ≤ g) ∧ wr.ownsRow (w.heap.size + 2) 3 1 u7 j (xs.flatMap Nm.cells) ∧ Rd Op_.cells 3 wr lo4 hi4 (.slice A6 n6 d6) ops) (fun _ u10 _ => n6 - (intOf u10).toNat)
     case atStart => exact ⟨0, 0, ⟨m, st, ls, lw⟩, [], _, _, _, _, _, _, _, _, _, _, _, Nat.zero_le _, rfl, Lib.hid rfl, HG0, Lib.hid rfl, Nat.le_refl _, b0, by omega, bO, bR, o3, o4, o5, by omega, by omega, (by intro g hg; simp [Value.ownBlock] at hg; omega), oK, ho4⟩
     case round =>
      clear b0 bO bR o3 o4 o5 oK ho4
      obtain ⟨k, j, S, xs, At, A0, A1, nt, dt, n0, d0, n1, d1, lo', hi', hk, rfl, HR, HS, HJ, hj, hB, zw, bO, bR, ot, os, ow, zl, zh, hu, oK, ho4⟩ := hrel
      by_cases hlt : k < n6
      ·obtain ⟨b, off, o, rfl, HO, _, hbh, f0, f1, f2⟩ := Op_.get ho4 hlt (Below.refl wr.heap.size wr) (by omega)
       have hki : (k : Int) < (n6 : Int) := by omega
       have HV := Lib.hid (List.all_eq_true.1 HA.out o (List.mem_of_getElem? HO.out))
       have hS4 := FS.good_len HS.out
       have hSp : Qu.parts S.ls S.lw = true := (Qu.good_parts (FS.good_iff.1 HS.out).2.1).1
       have huL : ∀ g, u7.ownBlock = some g → g < wr.heap.size := fun g hg => own_lt oK g hg
       have hvk := (Op_.ok_iff o).1 HV.out
       by_cases h1 : o.kind = 1
       ·have HI := Lib.hid (show inB o.irq 0 7 = true from by rcases hvk with h | h | h <;> simp_all <;> omega)
        have HP := Lib.hid (show inB o.prio 0 15 = true from by rcases hvk with h | h | h <;> simp_all <;> omega)
        have HS2 := Lib.hid (FS.rose_good HS.out HI.out HP.out)
        have HQ := Lib.hid hSp
        have HR2 := Lib.hid (show FS.runs (⟨m, st, ls, lw⟩, []) (ops.take (k + 1)) = (S.rose o.irq o.prio, xs) from (FS.runs_pre HO.out).trans (by rw [HR.out]; exact FS.next_rose h1))
        rw [h1] at f0
        clear h1 hvk hSp HV
        have bO_0 := bO.c0
        have bO_1 := bO.c1
        have bO_2 := bO.c2
        have bO_3 := bO.c3
        have bO_z := bO.frozen
        have bO_l := bO.lt
        have bR_0 := bR.c0
        have bR_1 := bR.c1
        have bR_2 := bR.c2
        have bR_3 := bR.c3
        have bR_z := bR.frozen
        have bR_l := bR.lt
        go_upto_region 16 with fail
        clear bO_0 bO_1 bO_2 bO_3 bO_z bO_l bR_0 bR_1 bR_2 bR_3 bR_z bR_l
        refine wp_region_held_drew (S := fun W => Rd Op_.cells 3 W lo4 hi4 (.slice (some ⟨b, off, none⟩) n6 d6) ops) (by kernel_rfl) (show (fun (W : World) => Rd Op_.cells 3 W lo4 hi4 (.slice (some ⟨b, off, none⟩) n6 d6) ops) wr.drew from ho4.drew) (fun hHeld => ?_)
        refine wpAnyH_take (i := 1) (v := .slice (some ⟨b, off, none⟩) n6 d6) rfl (by kernel_rfl) (by kernel_rfl) (by kernel_rfl) (fun _ _ _ h => h) (Or.inl ⟨by rfl, by intro w hSw; have hS0 := hSw; obtain ⟨yf0, yf1, yf2⟩ := Op_.at_ hS0 HO.out; go_simp⟩) hHeld ?_
        refine wpAnyH_take (i := 2) (v := .int .i64 k) rfl (by kernel_rfl) (by kernel_rfl) (by kernel_rfl) (fun _ _ _ h => h) (Or.inl ⟨by rfl, by intro w hSw; have hS0 := hSw; obtain ⟨yf0, yf1, yf2⟩ := Op_.at_ hS0 HO.out; go_simp⟩) hHeld ?_
        refine wpAnyH_take (i := 3) (v := .pointer (some ⟨b, off + k * 3, none⟩)) rfl (by kernel_rfl) (by kernel_rfl) (by kernel_rfl) (fun _ _ _ h => h) (Or.inl ⟨by rfl, by intro w hSw; have hS0 := hSw; obtain ⟨yf0, yf1, yf2⟩ := Op_.at_ hS0 HO.out; go_simp⟩) hHeld ?_
        refine wpAnyH_take (i := 4) (v := .pointer (some ⟨b, off + k * 3 + 1, none⟩)) rfl (by kernel_rfl) (by kernel_rfl) (by kernel_rfl) (fun _ _ _ h => h) (Or.inl ⟨by rfl, by intro w hSw; have hS0 := hSw; obtain ⟨yf0, yf1, yf2⟩ := Op_.at_ hS0 HO.out; go_simp⟩) hHeld ?_
        refine wpAnyH_take (i := 5) (v := .int .i64 o.irq) rfl (by kernel_rfl) (by kernel_rfl) (by kernel_rfl) (fun _ _ _ h => h) (Or.inl ⟨by rfl, by intro w hSw; have hS0 := hSw; obtain ⟨yf0, yf1, yf2⟩ := Op_.at_ hS0 HO.out; go_simp⟩) hHeld ?_
        refine wpAnyH_take (i := 6) (v := .slice (some ⟨b, off, none⟩) n6 d6) rfl (by kernel_rfl) (by kernel_rfl) (by kernel_rfl) (fun _ _ _ h => h) (Or.inl ⟨by rfl, by intro w hSw; have hS0 := hSw; obtain ⟨yf0, yf1, yf2⟩ := Op_.at_ hS0 HO.out; go_simp⟩) hHeld ?_
        refine wpAnyH_take (i := 7) (v := .int .i64 k) rfl (by kernel_rfl) (by kernel_rfl) (by kernel_rfl) (fun _ _ _ h => h) (Or.inl ⟨by rfl, by intro w hSw; have hS0 := hSw; obtain ⟨yf0, yf1, yf2⟩ := Op_.at_ hS0 HO.out; go_simp⟩) hHeld ?_
        refine wpAnyH_take (i := 8) (v := .pointer (some ⟨b, off + k * 3, none⟩)) rfl (by kernel_rfl) (by kernel_rfl) (by kernel_rfl) (fun _ _ _ h => h) (Or.inl ⟨by rfl, by intro w hSw; have hS0 := hSw; obtain ⟨yf0, yf1, yf2⟩ := Op_.at_ hS0 HO.out; go_simp⟩) hHeld ?_
        refine wpAnyH_take (i := 9) (v := .pointer (some ⟨b, off + k * 3 + 2, none⟩)) rfl (by kernel_rfl) (by kernel_rfl) (by kernel_rfl) (fun _ _ _ h => h) (Or.inl ⟨by rfl, by intro w hSw; have hS0 := hSw; obtain ⟨yf0, yf1, yf2⟩ := Op_.at_ hS0 HO.out; go_simp⟩) hHeld ?_
        refine wpAnyH_take (i := 10) (v := .int .i64 o.prio) rfl (by kernel_rfl) (by kernel_rfl) (by kernel_rfl) (fun _ _ _ h => h) (Or.inl ⟨by rfl, by intro w hSw; have hS0 := hSw; obtain ⟨yf0, yf1, yf2⟩ := Op_.at_ hS0 HO.out; go_simp⟩) hHeld ?_
        clear hHeld
        refine held_gen (F := fun W' => Below wr.heap.size wr W') (Below.refl wr.heap.size wr).drew ?_
        rintro w201 b_201
        replace bO := bO.below b_201 bO.lt
        replace bR := bR.below b_201 bR.lt
        replace ot := ot.below b_201 (by omega)
        replace os := os.below b_201 (by omega)
        replace ow := ow.below b_201 (by omega)
        replace ho4 := ho4.below b_201 (by omega)
        replace oK := own_below oK b_201
        have z_202 := b_201.size
        replace hB := hB.trans (b_201.mono (by omega))
        clear b_201
        refine wpAnyH_ready (rs := [0]) (by kernel_rfl) (by decide) ?_
        refine AllReadyH.cons rfl (fun K203 hK203 => ?_) AllReadyH.nil
        have bO_0 := bO.c0
        have bO_1 := bO.c1
        have bO_2 := bO.c2
        have bO_3 := bO.c3
        have bO_z := bO.frozen
        have bO_l := bO.lt
        have bR_0 := bR.c0
        have bR_1 := bR.c1
        have bR_2 := bR.c2
        have bR_3 := bR.c3
        have bR_z := bR.frozen
        have bR_l := bR.lt
        go_simp
        clear bO_0 bO_1 bO_2 bO_3 bO_z bO_l bR_0 bR_1 bR_2 bR_3 bR_z bR_l
        refine hK203.out _ _ ho4 (fun _ => ?_)
        refine wpAnyH_ready (rs := [11]) (by kernel_rfl) (by decide) ?_
        refine AllReadyH.cons rfl (fun K204 hK204 => ?_) AllReadyH.nil
        go_simp
        refine (specRaise_in S.m _ _ _ S.st S.ls S.lw w201 ot.rd os.rd ow.rd (by omega) (by omega) (by omega) o.irq o.prio (by omega) HQ.out HI.out HP.out).mono ?_; rintro q_ w205 ⟨v3, v4, v5, rfl, o3, o4, o5, b_205⟩
        replace bO := bO.below b_205 bO.lt
        replace bR := bR.below b_205 bR.lt
        replace ot := ot.below b_205 (by omega)
        replace os := os.below b_205 (by omega)
        replace ow := ow.below b_205 (by omega)
        replace ho4 := ho4.below b_205 (by omega)
        replace oK := own_below oK b_205
        have z_206 := b_205.size
        replace hB := hB.trans (b_205.mono (by omega))
        clear b_205
        obtain ⟨B3, m3, e3, rfl, _, _, _⟩ := o3.rd.form
        obtain ⟨B4, m4, e4, rfl, _, _, _⟩ := o4.rd.form
        obtain ⟨B5, m5, e5, rfl, _, _, _⟩ := o5.rd.form
        refine hK204.out _ _ ho4 (fun _ => ?_)
        clear ot os ow f0 f1 f2
        refine wpAnyH_ready (rs := [12]) (by kernel_rfl) (by decide) ?_
        refine AllReadyH.cons rfl (fun K207 hK207 => ?_) AllReadyH.nil
        have bO_0 := bO.c0
        have bO_1 := bO.c1
        have bO_2 := bO.c2
        have bO_3 := bO.c3
        have bO_z := bO.frozen
        have bO_l := bO.lt
        have bR_0 := bR.c0
        have bR_1 := bR.c1
        have bR_2 := bR.c2
        have bR_3 := bR.c3
        have bR_z := bR.frozen
        have bR_l := bR.lt
        go_simp
        clear bO_0 bO_1 bO_2 bO_3 bO_z bO_l bR_0 bR_1 bR_2 bR_3 bR_z bR_l
        generalize hwz : World.setCell (World.setCell (World.setCell (World.setCell _ _ _) _ _) _ _) _ _ = wz_
        obtain rfl : wz_ = setL w205 (gO) 0 [.int .i64 S.m, .slice B3 m3 e3, .slice B4 m4 e4, .slice B5 m5 e5] := hwz.symm
        clear hwz
        replace bR := bR.other (b := gO) (by omega) 0 [.int .i64 S.m, .slice B3 m3 e3, .slice B4 m4 e4, .slice B5 m5 e5]
        replace ho4 := ho4.away (g := gO) (by omega) 0 [.int .i64 S.m, .slice B3 m3 e3, .slice B4 m4 e4, .slice B5 m5 e5]
        replace o3 := o3.box (g := gO) bO (by decide) 0 [.int .i64 S.m, .slice B3 m3 e3, .slice B4 m4 e4, .slice B5 m5 e5]
        replace o4 := o4.box (g := gO) bO (by decide) 0 [.int .i64 S.m, .slice B3 m3 e3, .slice B4 m4 e4, .slice B5 m5 e5]
        replace o5 := o5.box (g := gO) bO (by decide) 0 [.int .i64 S.m, .slice B3 m3 e3, .slice B4 m4 e4, .slice B5 m5 e5]
        replace oK := own_box oK bO (by decide) 0 [.int .i64 S.m, .slice B3 m3 e3, .slice B4 m4 e4, .slice B5 m5 e5]
        replace hB := setL_below hB [.int .i64 S.m, .slice B3 m3 e3, .slice B4 m4 e4, .slice B5 m5 e5] (gO) 0 (by omega)
        have zs_208 : (setL w205 (gO) 0 [.int .i64 S.m, .slice B3 m3 e3, .slice B4 m4 e4, .slice B5 m5 e5]).heap.size = w205.heap.size := setL_size _ _ _ _
        replace bO := bO.setAll [.int .i64 S.m, .slice B3 m3 e3, .slice B4 m4 e4, .slice B5 m5 e5] rfl
        generalize setL w205 _ 0 _ = w208 at *
        refine hK207.out _ _ ho4 (fun _ => ?_)
        refine ⟨by kernel_rfl, ?_⟩
        have bO_0 := bO.c0
        have bO_1 := bO.c1
        have bO_2 := bO.c2
        have bO_3 := bO.c3
        have bO_z := bO.frozen
        have bO_l := bO.lt
        have bR_0 := bR.c0
        have bR_1 := bR.c1
        have bR_2 := bR.c2
        have bR_3 := bR.c3
        have bR_z := bR.frozen
        have bR_l := bR.lt
        go_wp2_with fail
        clear bO_0 bO_1 bO_2 bO_3 bO_z bO_l bR_0 bR_1 bR_2 bR_3 bR_z bR_l
        go_roundw
        case rel =>
         exact ⟨k + 1, j, S.rose o.irq o.prio, xs, _, _, _, _, _, _, _, _, _, _, _, by omega, by go_num, HR2, HS2, Lib.hid HJ.out, by omega, hB, by omega, bO, bR, o3, o4, o5, by omega, by omega, (fun g hg => by have := huL g hg; omega), oK, ho4⟩
        case measure => simp [intOf]; omega
       by_cases h2 : o.kind = 2
       ·clear h1
        have HX := Lib.hid (Fa.slots HS.out)
        have HGs := Lib.hid (Fa.good_sl HS.out)
        rw [h2] at f0
        cases hk : S.tk
        ·have HS2 := HS
         have HR2 := Lib.hid (show FS.runs (⟨m, st, ls, lw⟩, []) (ops.take (k + 1)) = (S, xs) from (FS.runs_pre HO.out).trans (by rw [HR.out]; exact FS.next_none h2 hk))
         have HK := Lib.hid (show Fa.tkT S.st S.ls (minI S.m (Fa.run S.st S.ls)) = S.st ∧ Sl.tkL S.ls (minI S.m (Fa.run S.st S.ls)) = S.ls ∧ Sl.tkW S.ls (minI S.m (Fa.run S.st S.ls)) = -1 from by unfold FS.tk at hk; simp [Fa.tkT, Sl.tkL, Sl.tkW, hk])
         clear h2 hk hvk hSp HV
         have bO_0 := bO.c0
         have bO_1 := bO.c1
         have bO_2 := bO.c2
         have bO_3 := bO.c3
         have bO_z := bO.frozen
         have bO_l := bO.lt
         have bR_0 := bR.c0
         have bR_1 := bR.c1
         have bR_2 := bR.c2
         have bR_3 := bR.c3
         have bR_z := bR.frozen
         have bR_l := bR.lt
         go_wp2_with fail
         clear bO_0 bO_1 bO_2 bO_3 bO_z bO_l bR_0 bR_1 bR_2 bR_3 bR_z bR_l
         have c2 := specTakeF_in S.m _ _ _ S.st S.ls S.lw wr ot.rd os.rd ow.rd (by omega) (by omega) (by omega) HGs.out HX.out (by omega) (by omega)
         rw [HK.out.1, HK.out.2.1, HK.out.2.2] at c2
         have huC : ∀ g, u7.ownBlock = some g → g < wr.heap.size := fun g hg => by have := huL g hg; omega
         refine (c2).mono ?_; rintro q_ w201 ⟨v3, v4, v5, rfl, o3, o4, o5, b_201⟩
         replace bO := bO.below b_201 bO.lt
         replace bR := bR.below b_201 bR.lt
         replace ot := ot.below b_201 (by omega)
         replace os := os.below b_201 (by omega)
         replace ow := ow.below b_201 (by omega)
         replace ho4 := ho4.below b_201 (by omega)
         replace oK := own_below oK b_201
         have z_202 := b_201.size
         replace hB := hB.trans (b_201.mono (by omega))
         clear b_201
         obtain ⟨B3, m3, e3, rfl, _, _, _⟩ := o3.rd.form
         obtain ⟨B4, m4, e4, rfl, _, _, _⟩ := o4.rd.form
         obtain ⟨B5, m5, e5, rfl, _, _, _⟩ := o5.rd.form
         clear ot os ow f0 f1 f2
         have bO_0 := bO.c0
         have bO_1 := bO.c1
         have bO_2 := bO.c2
         have bO_3 := bO.c3
         have bO_z := bO.frozen
         have bO_l := bO.lt
         have bR_0 := bR.c0
         have bR_1 := bR.c1
         have bR_2 := bR.c2
         have bR_3 := bR.c3
         have bR_z := bR.frozen
         have bR_l := bR.lt
         go_upto_region 19 with fail
         clear bO_0 bO_1 bO_2 bO_3 bO_z bO_l bR_0 bR_1 bR_2 bR_3 bR_z bR_l
         have b_203 := (Below.refl w201.heap.size w201).alloc (Nat.le_refl _) (.cells #[.int .i64 S.m, .slice B3 m3 e3, .slice B4 m4 e4, .slice B5 m5 e5] 30)
         have bN := Box.new w201 #[.int .i64 S.m, .slice B3 m3 e3, .slice B4 m4 e4, .slice B5 m5 e5] 30 rfl
         replace bO := bO.below b_203 bO.lt
         replace bR := bR.below b_203 bR.lt
         replace ho4 := ho4.below b_203 (by omega)
         replace o3 := o3.below b_203 (by omega)
         replace o4 := o4.below b_203 (by omega)
         replace o5 := o5.below b_203 (by omega)
         replace oK := own_below oK b_203
         have z_204 := b_203.size
         replace hB := hB.trans (b_203.mono (by omega))
         clear b_203
         generalize w201.alloc _ = w203 at *
         generalize w201.heap.size = g203 at *
         have bO_0 := bO.c0
         have bO_1 := bO.c1
         have bO_2 := bO.c2
         have bO_3 := bO.c3
         have bO_z := bO.frozen
         have bO_l := bO.lt
         have bR_0 := bR.c0
         have bR_1 := bR.c1
         have bR_2 := bR.c2
         have bR_3 := bR.c3
         have bR_z := bR.frozen
         have bR_l := bR.lt
         have bN_0 := bN.c0
         have bN_1 := bN.c1
         have bN_2 := bN.c2
         have bN_3 := bN.c3
         have bN_z := bN.frozen
         have bN_l := bN.lt
         go_wp2_with fail
         clear bO_0 bO_1 bO_2 bO_3 bO_z bO_l bR_0 bR_1 bR_2 bR_3 bR_z bR_l bN_0 bN_1 bN_2 bN_3 bN_z bN_l
         go_roundw
         case rel =>
          clear bN
          generalize hwz : World.setCell (World.setCell (World.setCell (World.setCell _ _ _) _ _) _ _) _ _ = wz_
          obtain rfl : wz_ = setL w203 (gO) 0 [.int .i64 S.m, .slice B3 m3 e3, .slice B4 m4 e4, .slice B5 m5 e5] := hwz.symm
          clear hwz
          replace bR := bR.other (b := gO) (by omega) 0 [.int .i64 S.m, .slice B3 m3 e3, .slice B4 m4 e4, .slice B5 m5 e5]
          replace ho4 := ho4.away (g := gO) (by omega) 0 [.int .i64 S.m, .slice B3 m3 e3, .slice B4 m4 e4, .slice B5 m5 e5]
          replace o3 := o3.box (g := gO) bO (by decide) 0 [.int .i64 S.m, .slice B3 m3 e3, .slice B4 m4 e4, .slice B5 m5 e5]
          replace o4 := o4.box (g := gO) bO (by decide) 0 [.int .i64 S.m, .slice B3 m3 e3, .slice B4 m4 e4, .slice B5 m5 e5]
          replace o5 := o5.box (g := gO) bO (by decide) 0 [.int .i64 S.m, .slice B3 m3 e3, .slice B4 m4 e4, .slice B5 m5 e5]
          replace oK := own_box oK bO (by decide) 0 [.int .i64 S.m, .slice B3 m3 e3, .slice B4 m4 e4, .slice B5 m5 e5]
          replace hB := setL_below hB [.int .i64 S.m, .slice B3 m3 e3, .slice B4 m4 e4, .slice B5 m5 e5] (gO) 0 (by omega)
          have zs_205 : (setL w203 (gO) 0 [.int .i64 S.m, .slice B3 m3 e3, .slice B4 m4 e4, .slice B5 m5 e5]).heap.size = w203.heap.size := setL_size _ _ _ _
          replace bO := bO.setAll [.int .i64 S.m, .slice B3 m3 e3, .slice B4 m4 e4, .slice B5 m5 e5] rfl
          generalize setL w203 _ 0 _ = w205 at *
          exact ⟨k + 1, j, S, xs, _, _, _, _, _, _, _, _, _, _, _, by omega, by go_num, HR2, HS2, Lib.hid HJ.out, by omega, hB, by omega, bO, bR, o3, o4, o5, by omega, by omega, (fun g hg => by have := huC g hg; omega), oK, ho4⟩
         case measure => simp [intOf]; omega
        ·have HS2 := Lib.hid (FS.took_good HS.out hk)
         have HR2 := Lib.hid (show FS.runs (⟨m, st, ls, lw⟩, []) (ops.take (k + 1)) = (S.took, xs ++ [Sl.tkI S.ls]) from (FS.runs_pre HO.out).trans (by rw [HR.out]; exact FS.next_took h2 hk))
         have hI := Sl.tk_irq HGs.out hk
         have hId : decide ((0 : Int) ≤ Sl.tkI S.ls) = true := decide_eq_true (by omega)
         have HK := Lib.hid (show Fa.tkT S.st S.ls (minI S.m (Fa.run S.st S.ls)) = S.st ++ [Sl.tkI S.ls] ∧ Sl.tkL S.ls (minI S.m (Fa.run S.st S.ls)) = Sl.tkS S.ls ∧ Sl.tkW S.ls (minI S.m (Fa.run S.st S.ls)) = Sl.tkI S.ls from by unfold FS.tk at hk; simp [Fa.tkT, Sl.tkL, Sl.tkW, hk])
         clear h2 hk hvk hSp HV
         have bO_0 := bO.c0
         have bO_1 := bO.c1
         have bO_2 := bO.c2
         have bO_3 := bO.c3
         have bO_z := bO.frozen
         have bO_l := bO.lt
         have bR_0 := bR.c0
         have bR_1 := bR.c1
         have bR_2 := bR.c2
         have bR_3 := bR.c3
         have bR_z := bR.frozen
         have bR_l := bR.lt
         go_wp2_with fail
         clear bO_0 bO_1 bO_2 bO_3 bO_z bO_l bR_0 bR_1 bR_2 bR_3 bR_z bR_l
         have c2 := specTakeF_in S.m _ _ _ S.st S.ls S.lw wr ot.rd os.rd ow.rd (by omega) (by omega) (by omega) HGs.out HX.out (by omega) (by omega)
         rw [HK.out.1, HK.out.2.1, HK.out.2.2] at c2
         have huC : ∀ g, u7.ownBlock = some g → g < wr.heap.size := fun g hg => by have := huL g hg; omega
         refine (c2).mono ?_; rintro q_ w201 ⟨v3, v4, v5, rfl, o3, o4, o5, b_201⟩
         replace bO := bO.below b_201 bO.lt
         replace bR := bR.below b_201 bR.lt
         replace ot := ot.below b_201 (by omega)
         replace os := os.below b_201 (by omega)
         replace ow := ow.below b_201 (by omega)
         replace ho4 := ho4.below b_201 (by omega)
         replace oK := own_below oK b_201
         have z_202 := b_201.size
         replace hB := hB.trans (b_201.mono (by omega))
         clear b_201
         obtain ⟨B3, m3, e3, rfl, _, _, _⟩ := o3.rd.form
         obtain ⟨B4, m4, e4, rfl, _, _, _⟩ := o4.rd.form
         obtain ⟨B5, m5, e5, rfl, _, _, _⟩ := o5.rd.form
         clear ot os ow f0 f1 f2
         have bO_0 := bO.c0
         have bO_1 := bO.c1
         have bO_2 := bO.c2
         have bO_3 := bO.c3
         have bO_z := bO.frozen
         have bO_l := bO.lt
         have bR_0 := bR.c0
         have bR_1 := bR.c1
         have bR_2 := bR.c2
         have bR_3 := bR.c3
         have bR_z := bR.frozen
         have bR_l := bR.lt
         go_upto_region 19 with fail
         clear bO_0 bO_1 bO_2 bO_3 bO_z bO_l bR_0 bR_1 bR_2 bR_3 bR_z bR_l
         have b_203 := (Below.refl w201.heap.size w201).alloc (Nat.le_refl _) (.cells #[.int .i64 S.m, .slice B3 m3 e3, .slice B4 m4 e4, .slice B5 m5 e5] 30)
         have bN := Box.new w201 #[.int .i64 S.m, .slice B3 m3 e3, .slice B4 m4 e4, .slice B5 m5 e5] 30 rfl
         replace bO := bO.below b_203 bO.lt
         replace bR := bR.below b_203 bR.lt
         replace ho4 := ho4.below b_203 (by omega)
         replace o3 := o3.below b_203 (by omega)
         replace o4 := o4.below b_203 (by omega)
         replace o5 := o5.below b_203 (by omega)
         replace oK := own_below oK b_203
         have z_204 := b_203.size
         replace hB := hB.trans (b_203.mono (by omega))
         clear b_203
         generalize w201.alloc _ = w203 at *
         generalize w201.heap.size = g203 at *
         have bO_0 := bO.c0
         have bO_1 := bO.c1
         have bO_2 := bO.c2
         have bO_3 := bO.c3
         have bO_z := bO.frozen
         have bO_l := bO.lt
         have bR_0 := bR.c0
         have bR_1 := bR.c1
         have bR_2 := bR.c2
         have bR_3 := bR.c3
         have bR_z := bR.frozen
         have bR_l := bR.lt
         have bN_0 := bN.c0
         have bN_1 := bN.c1
         have bN_2 := bN.c2
         have bN_3 := bN.c3
         have bN_z := bN.frozen
         have bN_l := bN.lt
         go_upto_region 20 with fail
         clear bO_0 bO_1 bO_2 bO_3 bO_z bO_l bR_0 bR_1 bR_2 bR_3 bR_z bR_l bN_0 bN_1 bN_2 bN_3 bN_z bN_l
         have bL := (Below.refl w203.heap.size w203).alloc (Nat.le_refl _) (.cells #[.int .i64 (Sl.tkI S.ls)] 3)
         have zL : (w203.alloc (.cells #[.int .i64 (Sl.tkI S.ls)] 3)).heap.size = w203.heap.size + 1 := by simp
         have oKL := oK.alloc (.cells #[.int .i64 (Sl.tkI S.ls)] 3)
         go_upto_region 21 with (at_builtin; (refine Nm.app_one2 rfl _ _ rfl (w.heap.size + 2) u7 j _ rfl oKL (g := w203.heap.size) (c := 1) (Sl.tkI S.ls) rfl (fun j u hu => cell_new _ _ _ rfl (by simpa [Nm.cells] using hu)) (by omega) (by omega) ?_); (intro v8 w8 oK8 g8 d8))
         replace bO := (bO.below bL bO.lt).grown_own oKL g8 (by decide)
         replace bR := (bR.below bL bR.lt).grown_own oKL g8 (by decide)
         replace bN := (bN.below bL bN.lt).grown_own oKL g8 (by decide)
         replace ho4 := (ho4.below bL (by omega)).grown g8 (by omega) (fun g hg => by have := own_ge oKL g hg; omega)
         replace o3 := (o3.below bL (by omega)).grown_off g8 (fun g hg => by have := huC g hg; omega)
         replace o4 := (o4.below bL (by omega)).grown_own oKL g8 (by decide)
         replace o5 := (o5.below bL (by omega)).grown_own oKL g8 (by decide)
         replace hB := (hB.trans (bL.mono (by omega))).grown g8 (by omega) (fun g hg => by have := own_ge oKL g hg; omega)
         have z8 := g8.size
         rw [zL] at d8
         have oK8' : w8.ownsRow (w.heap.size + 2) 3 1 v8 (j + 1) ((xs ++ [(Sl.tkI S.ls)]).flatMap Nm.cells) := by rw [List.flatMap_append]; simpa using oK8
         clear oK8 oKL oK g8
         have oK8 := oK8'
         clear oK8' bL
         have bO_0 := bO.c0
         have bO_1 := bO.c1
         have bO_2 := bO.c2
         have bO_3 := bO.c3
         have bO_z := bO.frozen
         have bO_l := bO.lt
         have bR_0 := bR.c0
         have bR_1 := bR.c1
         have bR_2 := bR.c2
         have bR_3 := bR.c3
         have bR_z := bR.frozen
         have bR_l := bR.lt
         have bN_0 := bN.c0
         have bN_1 := bN.c1
         have bN_2 := bN.c2
         have bN_3 := bN.c3
         have bN_z := bN.frozen
         have bN_l := bN.lt
         go_wp2_with fail
         clear bO_0 bO_1 bO_2 bO_3 bO_z bO_l bR_0 bR_1 bR_2 bR_3 bR_z bR_l bN_0 bN_1 bN_2 bN_3 bN_z bN_l
         go_roundw
         case rel =>
          clear bN
          generalize hwz : World.setCell (World.setCell (World.setCell (World.setCell _ _ _) _ _) _ _) _ _ = wz_
          obtain rfl : wz_ = setL w8 (gO) 0 [.int .i64 S.m, .slice B3 m3 e3, .slice B4 m4 e4, .slice B5 m5 e5] := hwz.symm
          clear hwz
          replace bR := bR.other (b := gO) (by omega) 0 [.int .i64 S.m, .slice B3 m3 e3, .slice B4 m4 e4, .slice B5 m5 e5]
          replace ho4 := ho4.away (g := gO) (by omega) 0 [.int .i64 S.m, .slice B3 m3 e3, .slice B4 m4 e4, .slice B5 m5 e5]
          replace o3 := o3.box (g := gO) bO (by decide) 0 [.int .i64 S.m, .slice B3 m3 e3, .slice B4 m4 e4, .slice B5 m5 e5]
          replace o4 := o4.box (g := gO) bO (by decide) 0 [.int .i64 S.m, .slice B3 m3 e3, .slice B4 m4 e4, .slice B5 m5 e5]
          replace o5 := o5.box (g := gO) bO (by decide) 0 [.int .i64 S.m, .slice B3 m3 e3, .slice B4 m4 e4, .slice B5 m5 e5]
          replace oK8 := own_box oK8 bO (by decide) 0 [.int .i64 S.m, .slice B3 m3 e3, .slice B4 m4 e4, .slice B5 m5 e5]
          replace hB := setL_below hB [.int .i64 S.m, .slice B3 m3 e3, .slice B4 m4 e4, .slice B5 m5 e5] (gO) 0 (by omega)
          have zs_205 : (setL w8 (gO) 0 [.int .i64 S.m, .slice B3 m3 e3, .slice B4 m4 e4, .slice B5 m5 e5]).heap.size = w8.heap.size := setL_size _ _ _ _
          replace bO := bO.setAll [.int .i64 S.m, .slice B3 m3 e3, .slice B4 m4 e4, .slice B5 m5 e5] rfl
          generalize setL w8 _ 0 _ = w205 at *
          exact ⟨k + 1, j + 1, S.took, xs ++ [Sl.tkI S.ls], _, _, _, _, _, _, _, _, _, _, _, by omega, by go_num, HR2, HS2, Lib.hid (by rw [List.length_append, HJ.out]; rfl), by omega, hB, by omega, bO, bR, o3, o4, o5, by omega, by omega, (fun g hg => by rcases d8 with e | e <;> rw [e] at hg <;> first | (have := huC g hg; omega) | (simp at hg; omega)), oK8, ho4⟩
         case measure => simp [intOf]; omega
       by_cases h3 : o.kind = 3
       ·clear h1 h2
        rw [h3] at f0
        by_cases hz : S.st.length = 0
        ·have HS2 := HS
         have HR2 := Lib.hid (show FS.runs (⟨m, st, ls, lw⟩, []) (ops.take (k + 1)) = (S, xs) from (FS.runs_pre HO.out).trans (by rw [HR.out]; exact FS.next_nil h3 hz))
         have hzn : S.st = [] := List.eq_nil_of_length_eq_zero hz
         clear h3 hz hvk hSp HV
         have bO_0 := bO.c0
         have bO_1 := bO.c1
         have bO_2 := bO.c2
         have bO_3 := bO.c3
         have bO_z := bO.frozen
         have bO_l := bO.lt
         have bR_0 := bR.c0
         have bR_1 := bR.c1
         have bR_2 := bR.c2
         have bR_3 := bR.c3
         have bR_z := bR.frozen
         have bR_l := bR.lt
         go_wp2_with fail
         clear bO_0 bO_1 bO_2 bO_3 bO_z bO_l bR_0 bR_1 bR_2 bR_3 bR_z bR_l
         refine (specLeave_nil S.m _ _ _ S.st S.ls S.lw wr ot.rd os.rd ow.rd (by omega) (by omega) (by omega) hzn).mono ?_; rintro q_ w201 ⟨rfl, b_201⟩
         replace bO := bO.below b_201 bO.lt
         replace bR := bR.below b_201 bR.lt
         replace ot := ot.below b_201 (by omega)
         replace os := os.below b_201 (by omega)
         replace ow := ow.below b_201 (by omega)
         replace ho4 := ho4.below b_201 (by omega)
         replace oK := own_below oK b_201
         have z_202 := b_201.size
         replace hB := hB.trans (b_201.mono (by omega))
         clear b_201
         clear f0 f1 f2 hzn
         have bO_0 := bO.c0
         have bO_1 := bO.c1
         have bO_2 := bO.c2
         have bO_3 := bO.c3
         have bO_z := bO.frozen
         have bO_l := bO.lt
         have bR_0 := bR.c0
         have bR_1 := bR.c1
         have bR_2 := bR.c2
         have bR_3 := bR.c3
         have bR_z := bR.frozen
         have bR_l := bR.lt
         go_wp2_with fail
         clear bO_0 bO_1 bO_2 bO_3 bO_z bO_l bR_0 bR_1 bR_2 bR_3 bR_z bR_l
         go_roundw
         case rel =>
          generalize hwz : World.setCell (World.setCell (World.setCell (World.setCell _ _ _) _ _) _ _) _ _ = wz_
          obtain rfl : wz_ = setL w201 (gO) 0 [.int .i64 S.m, .slice At nt dt, .slice A0 n0 d0, .slice A1 n1 d1] := hwz.symm
          clear hwz
          replace bR := bR.other (b := gO) (by omega) 0 [.int .i64 S.m, .slice At nt dt, .slice A0 n0 d0, .slice A1 n1 d1]
          replace ot := ot.box (g := gO) bO (by decide) 0 [.int .i64 S.m, .slice At nt dt, .slice A0 n0 d0, .slice A1 n1 d1]
          replace os := os.box (g := gO) bO (by decide) 0 [.int .i64 S.m, .slice At nt dt, .slice A0 n0 d0, .slice A1 n1 d1]
          replace ow := ow.box (g := gO) bO (by decide) 0 [.int .i64 S.m, .slice At nt dt, .slice A0 n0 d0, .slice A1 n1 d1]
          replace ho4 := ho4.away (g := gO) (by omega) 0 [.int .i64 S.m, .slice At nt dt, .slice A0 n0 d0, .slice A1 n1 d1]
          replace oK := own_box oK bO (by decide) 0 [.int .i64 S.m, .slice At nt dt, .slice A0 n0 d0, .slice A1 n1 d1]
          replace hB := setL_below hB [.int .i64 S.m, .slice At nt dt, .slice A0 n0 d0, .slice A1 n1 d1] (gO) 0 (by omega)
          have zs_203 : (setL w201 (gO) 0 [.int .i64 S.m, .slice At nt dt, .slice A0 n0 d0, .slice A1 n1 d1]).heap.size = w201.heap.size := setL_size _ _ _ _
          replace bO := bO.setAll [.int .i64 S.m, .slice At nt dt, .slice A0 n0 d0, .slice A1 n1 d1] rfl
          generalize setL w201 _ 0 _ = w203 at *
          exact ⟨k + 1, j, S, xs, _, _, _, _, _, _, _, _, _, _, _, by omega, by go_num, HR2, HS2, Lib.hid HJ.out, by omega, hB, by omega, bO, bR, ot, os, ow, by omega, by omega, (fun g hg => hu g hg), oK, ho4⟩
         case measure => simp [intOf]; omega
        ·obtain ⟨i, hi_⟩ : ∃ i, i + 1 = S.st.length := ⟨S.st.length - 1, by omega⟩
         obtain ⟨y, hy⟩ : ∃ y, S.st[i]? = some y := ⟨_, List.getElem?_eq_getElem (show i < S.st.length by omega)⟩
         have HS2 := Lib.hid (FS.left_good HS.out hz)
         have HR2 := Lib.hid (show FS.runs (⟨m, st, ls, lw⟩, []) (ops.take (k + 1)) = (S.left, xs) from (FS.runs_pre HO.out).trans (by rw [HR.out]; exact FS.next_left h3 hz))
         have HY := Lib.hid hy
         have HII := Lib.hid hi_
         have HQ := Lib.hid hSp
         have HT := Lib.hid (Fa.top_at hi_ hy)
         have HKL := Lib.hid (Fa.lv_end HS.out hi_ hy).1
         clear h3 hz hvk hSp HV hy hi_
         have bO_0 := bO.c0
         have bO_1 := bO.c1
         have bO_2 := bO.c2
         have bO_3 := bO.c3
         have bO_z := bO.frozen
         have bO_l := bO.lt
         have bR_0 := bR.c0
         have bR_1 := bR.c1
         have bR_2 := bR.c2
         have bR_3 := bR.c3
         have bR_z := bR.frozen
         have bR_l := bR.lt
         go_wp2_with fail
         clear bO_0 bO_1 bO_2 bO_3 bO_z bO_l bR_0 bR_1 bR_2 bR_3 bR_z bR_l
         have huC : ∀ g, u7.ownBlock = some g → g < wr.heap.size := fun g hg => by have := huL g hg; omega
         refine (specLeave_in S.m _ _ _ S.st S.ls S.lw wr ot.rd os.rd ow.rd (by omega) (by omega) (by omega) (by omega) HQ.out HII.out HY.out HKL.out).mono ?_; rintro q_ w201 ⟨v3, v4, v5, rfl, o3, o4, o5, b_201⟩
         replace bO := bO.below b_201 bO.lt
         replace bR := bR.below b_201 bR.lt
         replace ot := ot.below b_201 (by omega)
         replace os := os.below b_201 (by omega)
         replace ow := ow.below b_201 (by omega)
         replace ho4 := ho4.below b_201 (by omega)
         replace oK := own_below oK b_201
         have z_202 := b_201.size
         replace hB := hB.trans (b_201.mono (by omega))
         clear b_201
         rw [← HT.out.2.1] at o3
         have e4 := HT.out.2.2
         rw [← e4] at o4 o5
         clear e4
         obtain ⟨B3, m3, e3, rfl, _, _, _⟩ := o3.rd.form
         obtain ⟨B4, m4, e4, rfl, _, _, _⟩ := o4.rd.form
         obtain ⟨B5, m5, e5, rfl, _, _, _⟩ := o5.rd.form
         clear ot os ow f0 f1 f2
         have bO_0 := bO.c0
         have bO_1 := bO.c1
         have bO_2 := bO.c2
         have bO_3 := bO.c3
         have bO_z := bO.frozen
         have bO_l := bO.lt
         have bR_0 := bR.c0
         have bR_1 := bR.c1
         have bR_2 := bR.c2
         have bR_3 := bR.c3
         have bR_z := bR.frozen
         have bR_l := bR.lt
         go_wp2_with fail
         clear bO_0 bO_1 bO_2 bO_3 bO_z bO_l bR_0 bR_1 bR_2 bR_3 bR_z bR_l
         go_roundw
         case rel =>
          generalize hwz : World.setCell (World.setCell (World.setCell (World.setCell _ _ _) _ _) _ _) _ _ = wz_
          obtain rfl : wz_ = setL w201 (gO) 0 [.int .i64 S.m, .slice B3 m3 e3, .slice B4 m4 e4, .slice B5 m5 e5] := hwz.symm
          clear hwz
          replace bR := bR.other (b := gO) (by omega) 0 [.int .i64 S.m, .slice B3 m3 e3, .slice B4 m4 e4, .slice B5 m5 e5]
          replace ho4 := ho4.away (g := gO) (by omega) 0 [.int .i64 S.m, .slice B3 m3 e3, .slice B4 m4 e4, .slice B5 m5 e5]
          replace o3 := o3.box (g := gO) bO (by decide) 0 [.int .i64 S.m, .slice B3 m3 e3, .slice B4 m4 e4, .slice B5 m5 e5]
          replace o4 := o4.box (g := gO) bO (by decide) 0 [.int .i64 S.m, .slice B3 m3 e3, .slice B4 m4 e4, .slice B5 m5 e5]
          replace o5 := o5.box (g := gO) bO (by decide) 0 [.int .i64 S.m, .slice B3 m3 e3, .slice B4 m4 e4, .slice B5 m5 e5]
          replace oK := own_box oK bO (by decide) 0 [.int .i64 S.m, .slice B3 m3 e3, .slice B4 m4 e4, .slice B5 m5 e5]
          replace hB := setL_below hB [.int .i64 S.m, .slice B3 m3 e3, .slice B4 m4 e4, .slice B5 m5 e5] (gO) 0 (by omega)
          have zs_203 : (setL w201 (gO) 0 [.int .i64 S.m, .slice B3 m3 e3, .slice B4 m4 e4, .slice B5 m5 e5]).heap.size = w201.heap.size := setL_size _ _ _ _
          replace bO := bO.setAll [.int .i64 S.m, .slice B3 m3 e3, .slice B4 m4 e4, .slice B5 m5 e5] rfl
          generalize setL w201 _ 0 _ = w203 at *
          exact ⟨k + 1, j, S.left, xs, _, _, _, _, _, _, _, _, _, _, _, by omega, by go_num, HR2, HS2, Lib.hid HJ.out, by omega, hB, by omega, bO, bR, o3, o4, o5, by omega, by omega, (fun g hg => by have := huC g hg; omega), oK, ho4⟩
         case measure => simp [intOf]; omega
       have h4k : o.kind = 4 := by omega
       have hM : inB o.prio 0 16 = true := by rcases hvk with h | h | h <;> simp_all
       have HS2 := Lib.hid (FS.masked_good HS.out hM)
       clear hM
       have HR2 := Lib.hid (show FS.runs (⟨m, st, ls, lw⟩, []) (ops.take (k + 1)) = (S.masked o.prio, xs) from (FS.runs_pre HO.out).trans (by rw [HR.out]; exact FS.next_mask h4k))
       rw [h4k] at f0
       clear h1 h2 h3 h4k hvk hSp HV
       have bO_0 := bO.c0
       have bO_1 := bO.c1
       have bO_2 := bO.c2
       have bO_3 := bO.c3
       have bO_z := bO.frozen
       have bO_l := bO.lt
       have bR_0 := bR.c0
       have bR_1 := bR.c1
       have bR_2 := bR.c2
       have bR_3 := bR.c3
       have bR_z := bR.frozen
       have bR_l := bR.lt
       go_wp2_with fail
       clear bO_0 bO_1 bO_2 bO_3 bO_z bO_l bR_0 bR_1 bR_2 bR_3 bR_z bR_l
       go_roundw
       case rel =>
        generalize hwz : World.setCell _ _ _ = wz_
        obtain rfl : wz_ = setL wr (gO) 0 [.int .i64 o.prio] := hwz.symm
        clear hwz
        replace bR := bR.other (b := gO) (by omega) 0 [.int .i64 o.prio]
        replace ot := ot.box (g := gO) bO (by decide) 0 [.int .i64 o.prio]
        replace os := os.box (g := gO) bO (by decide) 0 [.int .i64 o.prio]
        replace ow := ow.box (g := gO) bO (by decide) 0 [.int .i64 o.prio]
        replace ho4 := ho4.away (g := gO) (by omega) 0 [.int .i64 o.prio]
        replace oK := own_box oK bO (by decide) 0 [.int .i64 o.prio]
        replace hB := setL_below hB [.int .i64 o.prio] (gO) 0 (by omega)
        have zs_201 : (setL wr (gO) 0 [.int .i64 o.prio]).heap.size = wr.heap.size := setL_size _ _ _ _
        replace bO := bO.set1 (j := 0) (.int .i64 o.prio) (by simp)
        generalize setL wr _ 0 _ = w201 at *
        exact ⟨k + 1, j, S.masked o.prio, xs, _, _, _, _, _, _, _, _, _, _, _, by omega, by go_num, HR2, HS2, Lib.hid HJ.out, by omega, hB, by omega, bO, bR, ot, os, ow, by omega, by omega, (fun g hg => hu g hg), oK, ho4⟩
       case measure => simp [intOf]; omega
      ·have HE := Lib.hid (show FS.runs (⟨m, st, ls, lw⟩, []) ops = (S, xs) from by rw [← HR.out, List.take_of_length_le (by rw [← H6.out]; omega)])
       have oT := Ow.of_own Nm.cells_len oK rfl HJ.out
       obtain ⟨a9, b9, q1, q2, q3, oT⟩ := oT.narrow hu
       clear oK hu
       obtain ⟨B9, m9, e9, rfl, _, _, _⟩ := oT.rd.form
       have bO_0 := bO.c0
       have bO_1 := bO.c1
       have bO_2 := bO.c2
       have bO_3 := bO.c3
       have bO_z := bO.frozen
       have bO_l := bO.lt
       have bR_0 := bR.c0
       have bR_1 := bR.c1
       have bR_2 := bR.c2
       have bR_3 := bR.c3
       have bR_z := bR.frozen
       have bR_l := bR.lt
       go_wp2_with fail
       clear bO_0 bO_1 bO_2 bO_3 bO_z bO_l bR_0 bR_1 bR_2 bR_3 bR_z bR_l
       generalize hwz : World.setCell (World.setCell (World.setCell (World.setCell _ _ _) _ _) _ _) _ _ = wz_
       obtain rfl : wz_ = setL wr (w.heap.size + 1) 0 [.int .i64 S.m, .slice At nt dt, .slice A0 n0 d0, .slice A1 n1 d1] := hwz.symm
       clear hwz
       replace bO := bO.other (b := w.heap.size + 1) (by omega) 0 [.int .i64 S.m, .slice At nt dt, .slice A0 n0 d0, .slice A1 n1 d1]
       replace ot := ot.box (g := w.heap.size + 1) bR (by decide) 0 [.int .i64 S.m, .slice At nt dt, .slice A0 n0 d0, .slice A1 n1 d1]
       replace os := os.box (g := w.heap.size + 1) bR (by decide) 0 [.int .i64 S.m, .slice At nt dt, .slice A0 n0 d0, .slice A1 n1 d1]
       replace ow := ow.box (g := w.heap.size + 1) bR (by decide) 0 [.int .i64 S.m, .slice At nt dt, .slice A0 n0 d0, .slice A1 n1 d1]
       replace ho4 := ho4.away (g := w.heap.size + 1) (by omega) 0 [.int .i64 S.m, .slice At nt dt, .slice A0 n0 d0, .slice A1 n1 d1]
       replace oT := oT.box (g := w.heap.size + 1) bR (by decide) 0 [.int .i64 S.m, .slice At nt dt, .slice A0 n0 d0, .slice A1 n1 d1]
       replace hB := setL_below hB [.int .i64 S.m, .slice At nt dt, .slice A0 n0 d0, .slice A1 n1 d1] (w.heap.size + 1) 0 (by omega)
       have zs_201 : (setL wr (w.heap.size + 1) 0 [.int .i64 S.m, .slice At nt dt, .slice A0 n0 d0, .slice A1 n1 d1]).heap.size = wr.heap.size := setL_size _ _ _ _
       replace bR := bR.setAll [.int .i64 S.m, .slice At nt dt, .slice A0 n0 d0, .slice A1 n1 d1] rfl
       generalize setL wr _ 0 _ = w201 at *
       have u0_ := bR.c0
       have u1_ := bR.c1
       have u2_ := bR.c2
       have u3_ := bR.c3
       refine bodyPost_ret (by simp only [results, Tryz.results28]; simp [go_sem, u0_, u1_, u2_, u3_]; rfl) rfl ?_
       exact ⟨_, _, _, _, lo', hi', a9, b9, by rw [HF.out.1, HF.out.2.1, HE.out], by rw [HF.out.2.1, HE.out]; exact ot, by rw [HF.out.2.1, HE.out]; exact os, by rw [HF.out.2.1, HE.out]; exact ow, by rw [HF.out.2.2, HE.out]; exact oT, by omega, by omega, by omega, by omega, by omega, hB⟩

end Go.Proofs.YtndfmkbpdoohfaaGreat

/- Running ops on a processor interface, in the program. Condition: at most 1048576 numbers, slots and waiters each. -/
namespace Go.Proofs.YtndfmkbpdoohfaaGreat
open Go.RowKit Go.ChangeShapes Go.WideShapes Go.Deep

set_option maxRecDepth 8000 in
set_option maxHeartbeats 8000000 in
theorem implRunOps_any (m : Int) (vt vs vw : Value) (st : List Int) (ls : List Sl) (lw : List Wt) (w : World) {lo hi lo2 hi2 lo3 hi3 : Nat} (h0 : Rd Nm.cells 1 w lo3 hi3 vt st) (h : Rd Sl.cells 3 w lo hi vs ls) (h2 : Rd Wt.cells 2 w lo2 hi2 vw lw) (hh0 : hi3 ≤ w.heap.size) (hh : hi ≤ w.heap.size) (hh2 : hi2 ≤ w.heap.size) (vo : Value) (ops : List Op_) {lo4 hi4 : Nat} (h4 : Rd Op_.cells 3 w lo4 hi4 vo ops) (hh4 : hi4 ≤ w.heap.size) (hl : st.length ≤ 1048576) (hl1 : ls.length ≤ 1048576) (hl2 : lw.length ≤ 1048576) :
  Calls Tryz.prog 27 #[.agg #[.int .i64 m, vt, vs, vw], vo] w fun e w' => ∃ v0 v1 v2 v3, ∃ q0 q1 q2 q3 : Nat, e = .returned (.tuple #[.agg #[.int .i64 (FS.roS ⟨m, st, ls, lw⟩ ops).m, v0, v1, v2], v3, .bool (FS.roOk ⟨m, st, ls, lw⟩ ops)]) ∧ Ow Nm.cells 1 3 w' q0 q1 v0 (FS.roS ⟨m, st, ls, lw⟩ ops).st ∧ Ow Sl.cells 3 93 w' q0 q1 v1 (FS.roS ⟨m, st, ls, lw⟩ ops).ls ∧ Ow Wt.cells 2 107 w' q0 q1 v2 (FS.roS ⟨m, st, ls, lw⟩ ops).lw ∧ Ow Nm.cells 1 3 w' q2 q3 v3 (FS.roT ⟨m, st, ls, lw⟩ ops) ∧ w.heap.size ≤ q0 ∧ q1 ≤ w'.heap.size ∧ w.heap.size ≤ q2 ∧ q3 ≤ w'.heap.size ∧ (q1 ≤ q2 ∨ q3 ≤ q0) ∧ Below w.heap.size w w' := by
 have b0 : Below w.heap.size w ((w.alloc (.cells #[.int .i64 m, vt, vs, vw] 30)).alloc (.cells #[.int .i64 0, .slice none 0 0, .slice none 0 0, .slice none 0 0] 30)) := ((Below.refl w.heap.size w).alloc (Nat.le_refl _) _).alloc (by simp) _
 have z0 : ((w.alloc (.cells #[.int .i64 m, vt, vs, vw] 30)).alloc (.cells #[.int .i64 0, .slice none 0 0, .slice none 0 0, .slice none 0 0] 30)).heap.size = w.heap.size + 2 := by simp
 have bx := Box.new w #[.int .i64 m, vt, vs, vw] 30 rfl
 have bR := Box.new (g := w.heap.size + 1) (w.alloc (.cells #[.int .i64 m, vt, vs, vw] 30)) #[.int .i64 0, .slice none 0 0, .slice none 0 0, .slice none 0 0] 30 (by simp)
 replace bx := bx.below ((Below.refl _ (w.alloc (.cells #[.int .i64 m, vt, vs, vw] 30))).alloc (Nat.le_refl _) (.cells #[.int .i64 0, .slice none 0 0, .slice none 0 0, .slice none 0 0] 30)) bx.lt
 have ht := h0.below b0 hh0
 have hs := h.below b0 hh
 have hw := h2.below b0 hh2
 have hv0_ := h0.form
 have hv_ := h.form
 have hv2_ := h2.form
 have ho4 := h4.below b0 hh4
 have hv4_ := h4.form
 clear h0 h h2 h4
 generalize hwA : (w.alloc (.cells #[.int .i64 m, vt, vs, vw] 30)).alloc (.cells #[.int .i64 0, .slice none 0 0, .slice none 0 0, .slice none 0 0] 30) = wA at *
 obtain ⟨At, nt, dt, rfl, _, _, _⟩ := hv0_
 obtain ⟨A0, n0, d0, rfl, _, _, _⟩ := hv_
 obtain ⟨A1, n1, d1, rfl, _, _, _⟩ := hv2_
 obtain ⟨A6, n6, d6, rfl, H6, hd6, hm6⟩ := hv4_
 have hn6 : n6 ≤ ops.length := Nat.le_of_eq H6.out
 cases hg : FS.good ⟨m, st, ls, lw⟩
 ·have HF := Lib.hid (FS.ro_no (s := ⟨m, st, ls, lw⟩) (l := ops) (by simp [FS.roOk, hg]))
  have HG := Lib.hid (show Fa.good m st ls lw = false from hg)
  clear hg
  go_enter Tryz.func27, Tryz.ntmps27
  have bx_0 := bx.c0
  have bx_1 := bx.c1
  have bx_2 := bx.c2
  have bx_3 := bx.c3
  have bx_z := bx.frozen
  have bx_l := bx.lt
  have bR_0 := bR.c0
  have bR_1 := bR.c1
  have bR_2 := bR.c2
  have bR_3 := bR.c3
  have bR_z := bR.frozen
  have bR_l := bR.lt
  go_wp2_with fail
  clear hwA
  clear bx_0 bx_1 bx_2 bx_3 bx_z bx_l bR_0 bR_1 bR_2 bR_3 bR_z bR_l
  have c1 := implIsInterface_any m _ _ _ st ls lw wA ht hs hw (by omega) (by omega) (by omega) hl
  rw [HG.out] at c1
  refine (c1).mono ?_; rintro q_ w1 ⟨rfl, b_1⟩
  replace bx := bx.below b_1 bx.lt
  replace bR := bR.below b_1 bR.lt
  replace ht := ht.below b_1 (by omega)
  replace hs := hs.below b_1 (by omega)
  replace hw := hw.below b_1 (by omega)
  replace ho4 := ho4.below b_1 (by omega)
  have z_2 := b_1.size
  replace b0 := b0.trans (b_1.mono (by omega))
  clear b_1
  have bx_0 := bx.c0
  have bx_1 := bx.c1
  have bx_2 := bx.c2
  have bx_3 := bx.c3
  have bx_z := bx.frozen
  have bx_l := bx.lt
  have bR_0 := bR.c0
  have bR_1 := bR.c1
  have bR_2 := bR.c2
  have bR_3 := bR.c3
  have bR_z := bR.frozen
  have bR_l := bR.lt
  go_wp2_with fail
  clear bx_0 bx_1 bx_2 bx_3 bx_z bx_l bR_0 bR_1 bR_2 bR_3 bR_z bR_l
  generalize hwz : World.setCell (World.setCell (World.setCell (World.setCell _ _ _) _ _) _ _) _ _ = wz_
  obtain rfl : wz_ = setL w1 (w.heap.size + 1) 0 [.int .i64 0, .slice none 0 0, .slice none 0 0, .slice none 0 0] := hwz.symm
  clear hwz
  replace bx := bx.other (b := w.heap.size + 1) (by omega) 0 [.int .i64 0, .slice none 0 0, .slice none 0 0, .slice none 0 0]
  replace ht := ht.away (g := w.heap.size + 1) (by omega) 0 [.int .i64 0, .slice none 0 0, .slice none 0 0, .slice none 0 0]
  replace hs := hs.away (g := w.heap.size + 1) (by omega) 0 [.int .i64 0, .slice none 0 0, .slice none 0 0, .slice none 0 0]
  replace hw := hw.away (g := w.heap.size + 1) (by omega) 0 [.int .i64 0, .slice none 0 0, .slice none 0 0, .slice none 0 0]
  replace ho4 := ho4.away (g := w.heap.size + 1) (by omega) 0 [.int .i64 0, .slice none 0 0, .slice none 0 0, .slice none 0 0]
  replace b0 := setL_below b0 [.int .i64 0, .slice none 0 0, .slice none 0 0, .slice none 0 0] (w.heap.size + 1) 0 (by omega)
  have zs_3 : (setL w1 (w.heap.size + 1) 0 [.int .i64 0, .slice none 0 0, .slice none 0 0, .slice none 0 0]).heap.size = w1.heap.size := setL_size _ _ _ _
  replace bR := bR.setAll [.int .i64 0, .slice none 0 0, .slice none 0 0, .slice none 0 0] rfl
  generalize setL w1 _ 0 _ = w3 at *
  have u0_ := bR.c0
  have u1_ := bR.c1
  have u2_ := bR.c2
  have u3_ := bR.c3
  refine bodyPost_ret (by simp only [results, Tryz.results27]; simp [go_sem, u0_, u1_, u2_, u3_]; rfl) rfl ?_
  exact ⟨_, _, _, _, w.heap.size, w.heap.size, w.heap.size, w.heap.size, by rw [HF.out.1, HF.out.2.1], by rw [HF.out.2.1]; exact Ow.nil_, by rw [HF.out.2.1]; exact Ow.nil_, by rw [HF.out.2.1]; exact Ow.nil_, by rw [HF.out.2.2]; exact Ow.nil_, Nat.le_refl _, b0.size, Nat.le_refl _, b0.size, Or.inl (Nat.le_refl _), b0⟩
 ·by_cases h20 : 20 < n6
  ·have HF := Lib.hid (FS.ro_no (s := ⟨m, st, ls, lw⟩) (l := ops) (by simp [FS.roOk]; intro _ _; omega))
   have h20d : decide ((20 : Int) < (n6 : Int)) = true := decide_eq_true (by omega)
   clear h20
   have HG := Lib.hid (show Fa.good m st ls lw = true from hg)
   clear hg
   go_enter Tryz.func27, Tryz.ntmps27
   have bx_0 := bx.c0
   have bx_1 := bx.c1
   have bx_2 := bx.c2
   have bx_3 := bx.c3
   have bx_z := bx.frozen
   have bx_l := bx.lt
   have bR_0 := bR.c0
   have bR_1 := bR.c1
   have bR_2 := bR.c2
   have bR_3 := bR.c3
   have bR_z := bR.frozen
   have bR_l := bR.lt
   go_wp2_with fail
   clear hwA
   clear bx_0 bx_1 bx_2 bx_3 bx_z bx_l bR_0 bR_1 bR_2 bR_3 bR_z bR_l
   have c1 := implIsInterface_any m _ _ _ st ls lw wA ht hs hw (by omega) (by omega) (by omega) hl
   rw [HG.out] at c1
   refine (c1).mono ?_; rintro q_ w1 ⟨rfl, b_1⟩
   replace bx := bx.below b_1 bx.lt
   replace bR := bR.below b_1 bR.lt
   replace ht := ht.below b_1 (by omega)
   replace hs := hs.below b_1 (by omega)
   replace hw := hw.below b_1 (by omega)
   replace ho4 := ho4.below b_1 (by omega)
   have z_2 := b_1.size
   replace b0 := b0.trans (b_1.mono (by omega))
   clear b_1
   have bx_0 := bx.c0
   have bx_1 := bx.c1
   have bx_2 := bx.c2
   have bx_3 := bx.c3
   have bx_z := bx.frozen
   have bx_l := bx.lt
   have bR_0 := bR.c0
   have bR_1 := bR.c1
   have bR_2 := bR.c2
   have bR_3 := bR.c3
   have bR_z := bR.frozen
   have bR_l := bR.lt
   go_wp2_with fail
   clear bx_0 bx_1 bx_2 bx_3 bx_z bx_l bR_0 bR_1 bR_2 bR_3 bR_z bR_l
   generalize hwz : World.setCell (World.setCell (World.setCell (World.setCell _ _ _) _ _) _ _) _ _ = wz_
   obtain rfl : wz_ = setL w1 (w.heap.size + 1) 0 [.int .i64 0, .slice none 0 0, .slice none 0 0, .slice none 0 0] := hwz.symm
   clear hwz
   replace bx := bx.other (b := w.heap.size + 1) (by omega) 0 [.int .i64 0, .slice none 0 0, .slice none 0 0, .slice none 0 0]
   replace ht := ht.away (g := w.heap.size + 1) (by omega) 0 [.int .i64 0, .slice none 0 0, .slice none 0 0, .slice none 0 0]
   replace hs := hs.away (g := w.heap.size + 1) (by omega) 0 [.int .i64 0, .slice none 0 0, .slice none 0 0, .slice none 0 0]
   replace hw := hw.away (g := w.heap.size + 1) (by omega) 0 [.int .i64 0, .slice none 0 0, .slice none 0 0, .slice none 0 0]
   replace ho4 := ho4.away (g := w.heap.size + 1) (by omega) 0 [.int .i64 0, .slice none 0 0, .slice none 0 0, .slice none 0 0]
   replace b0 := setL_below b0 [.int .i64 0, .slice none 0 0, .slice none 0 0, .slice none 0 0] (w.heap.size + 1) 0 (by omega)
   have zs_3 : (setL w1 (w.heap.size + 1) 0 [.int .i64 0, .slice none 0 0, .slice none 0 0, .slice none 0 0]).heap.size = w1.heap.size := setL_size _ _ _ _
   replace bR := bR.setAll [.int .i64 0, .slice none 0 0, .slice none 0 0, .slice none 0 0] rfl
   generalize setL w1 _ 0 _ = w3 at *
   have u0_ := bR.c0
   have u1_ := bR.c1
   have u2_ := bR.c2
   have u3_ := bR.c3
   refine bodyPost_ret (by simp only [results, Tryz.results27]; simp [go_sem, u0_, u1_, u2_, u3_]; rfl) rfl ?_
   exact ⟨_, _, _, _, w.heap.size, w.heap.size, w.heap.size, w.heap.size, by rw [HF.out.1, HF.out.2.1], by rw [HF.out.2.1]; exact Ow.nil_, by rw [HF.out.2.1]; exact Ow.nil_, by rw [HF.out.2.1]; exact Ow.nil_, by rw [HF.out.2.2]; exact Ow.nil_, Nat.le_refl _, b0.size, Nat.le_refl _, b0.size, Or.inl (Nat.le_refl _), b0⟩
  ·have HG0 := Lib.hid hg
   have h20d : decide ((20 : Int) < (n6 : Int)) = false := decide_eq_false (by omega)
   cases hA : ops.all Op_.ok
   ·have HF := Lib.hid (FS.ro_no (s := ⟨m, st, ls, lw⟩) (l := ops) (by simp [FS.roOk, hA]))
    have HN := Lib.hid (show (ops.any fun t => !t.ok) = true from by rw [Op_.any_bad, hA]; rfl)
    clear hA
    have HG := Lib.hid (show Fa.good m st ls lw = true from hg)
    clear hg
    go_enter Tryz.func27, Tryz.ntmps27
    have bx_0 := bx.c0
    have bx_1 := bx.c1
    have bx_2 := bx.c2
    have bx_3 := bx.c3
    have bx_z := bx.frozen
    have bx_l := bx.lt
    have bR_0 := bR.c0
    have bR_1 := bR.c1
    have bR_2 := bR.c2
    have bR_3 := bR.c3
    have bR_z := bR.frozen
    have bR_l := bR.lt
    go_wp2_with fail
    clear hwA
    clear bx_0 bx_1 bx_2 bx_3 bx_z bx_l bR_0 bR_1 bR_2 bR_3 bR_z bR_l
    have c1 := implIsInterface_any m _ _ _ st ls lw wA ht hs hw (by omega) (by omega) (by omega) hl
    rw [HG.out] at c1
    refine (c1).mono ?_; rintro q_ w1 ⟨rfl, b_1⟩
    replace bx := bx.below b_1 bx.lt
    replace bR := bR.below b_1 bR.lt
    replace ht := ht.below b_1 (by omega)
    replace hs := hs.below b_1 (by omega)
    replace hw := hw.below b_1 (by omega)
    replace ho4 := ho4.below b_1 (by omega)
    have z_2 := b_1.size
    replace b0 := b0.trans (b_1.mono (by omega))
    clear b_1
    have bx_0 := bx.c0
    have bx_1 := bx.c1
    have bx_2 := bx.c2
    have bx_3 := bx.c3
    have bx_z := bx.frozen
    have bx_l := bx.lt
    have bR_0 := bR.c0
    have bR_1 := bR.c1
    have bR_2 := bR.c2
    have bR_3 := bR.c3
    have bR_z := bR.frozen
    have bR_l := bR.lt
    go_wp2_with fail
    clear bx_0 bx_1 bx_2 bx_3 bx_z bx_l bR_0 bR_1 bR_2 bR_3 bR_z bR_l
    have c3 := Op_.contains_any 65 #[] (fun t => !t.ok) _ ops w1 ho4 (by omega) (enters Tryz.func65 (by kernel_rfl) rfl) (fun t W _ _ => badOp_any t W)
    rw [HN.out] at c3
    refine (c3).mono ?_; rintro q_ w3 ⟨rfl, b_3⟩
    replace bx := bx.below b_3 bx.lt
    replace bR := bR.below b_3 bR.lt
    replace ht := ht.below b_3 (by omega)
    replace hs := hs.below b_3 (by omega)
    replace hw := hw.below b_3 (by omega)
    replace ho4 := ho4.below b_3 (by omega)
    have z_4 := b_3.size
    replace b0 := b0.trans (b_3.mono (by omega))
    clear b_3
    have bx_0 := bx.c0
    have bx_1 := bx.c1
    have bx_2 := bx.c2
    have bx_3 := bx.c3
    have bx_z := bx.frozen
    have bx_l := bx.lt
    have bR_0 := bR.c0
    have bR_1 := bR.c1
    have bR_2 := bR.c2
    have bR_3 := bR.c3
    have bR_z := bR.frozen
    have bR_l := bR.lt
    go_wp2_with fail
    clear bx_0 bx_1 bx_2 bx_3 bx_z bx_l bR_0 bR_1 bR_2 bR_3 bR_z bR_l
    generalize hwz : World.setCell (World.setCell (World.setCell (World.setCell _ _ _) _ _) _ _) _ _ = wz_
    obtain rfl : wz_ = setL w3 (w.heap.size + 1) 0 [.int .i64 0, .slice none 0 0, .slice none 0 0, .slice none 0 0] := hwz.symm
    clear hwz
    replace bx := bx.other (b := w.heap.size + 1) (by omega) 0 [.int .i64 0, .slice none 0 0, .slice none 0 0, .slice none 0 0]
    replace ht := ht.away (g := w.heap.size + 1) (by omega) 0 [.int .i64 0, .slice none 0 0, .slice none 0 0, .slice none 0 0]
    replace hs := hs.away (g := w.heap.size + 1) (by omega) 0 [.int .i64 0, .slice none 0 0, .slice none 0 0, .slice none 0 0]
    replace hw := hw.away (g := w.heap.size + 1) (by omega) 0 [.int .i64 0, .slice none 0 0, .slice none 0 0, .slice none 0 0]
    replace ho4 := ho4.away (g := w.heap.size + 1) (by omega) 0 [.int .i64 0, .slice none 0 0, .slice none 0 0, .slice none 0 0]
    replace b0 := setL_below b0 [.int .i64 0, .slice none 0 0, .slice none 0 0, .slice none 0 0] (w.heap.size + 1) 0 (by omega)
    have zs_5 : (setL w3 (w.heap.size + 1) 0 [.int .i64 0, .slice none 0 0, .slice none 0 0, .slice none 0 0]).heap.size = w3.heap.size := setL_size _ _ _ _
    replace bR := bR.setAll [.int .i64 0, .slice none 0 0, .slice none 0 0, .slice none 0 0] rfl
    generalize setL w3 _ 0 _ = w5 at *
    have u0_ := bR.c0
    have u1_ := bR.c1
    have u2_ := bR.c2
    have u3_ := bR.c3
    refine bodyPost_ret (by simp only [results, Tryz.results27]; simp [go_sem, u0_, u1_, u2_, u3_]; rfl) rfl ?_
    exact ⟨_, _, _, _, w.heap.size, w.heap.size, w.heap.size, w.heap.size, by rw [HF.out.1, HF.out.2.1], by rw [HF.out.2.1]; exact Ow.nil_, by rw [HF.out.2.1]; exact Ow.nil_, by rw [HF.out.2.1]; exact Ow.nil_, by rw [HF.out.2.2]; exact Ow.nil_, Nat.le_refl _, b0.size, Nat.le_refl _, b0.size, Or.inl (Nat.le_refl _), b0⟩
   ·have HF := Lib.hid (FS.ro_yes (s := ⟨m, st, ls, lw⟩) (l := ops) (by have h6 := H6.out; simp [FS.roOk, hg, hA]; omega))
    have HN := Lib.hid (show (ops.any fun t => !t.ok) = false from by rw [Op_.any_bad, hA]; rfl)
    have HA := Lib.hid hA
    clear hA
    have HG := Lib.hid (show Fa.good m st ls lw = true from hg)
    clear hg
    go_enter Tryz.func27, Tryz.ntmps27
    have bx_0 := bx.c0
    have bx_1 := bx.c1
    have bx_2 := bx.c2
    have bx_3 := bx.c3
    have bx_z := bx.frozen
    have bx_l := bx.lt
    have bR_0 := bR.c0
    have bR_1 := bR.c1
    have bR_2 := bR.c2
    have bR_3 := bR.c3
    have bR_z := bR.frozen
    have bR_l := bR.lt
    go_wp2_with fail
    clear hwA
    clear bx_0 bx_1 bx_2 bx_3 bx_z bx_l bR_0 bR_1 bR_2 bR_3 bR_z bR_l
    have c1 := implIsInterface_any m _ _ _ st ls lw wA ht hs hw (by omega) (by omega) (by omega) hl
    rw [HG.out] at c1
    refine (c1).mono ?_; rintro q_ w1 ⟨rfl, b_1⟩
    replace bx := bx.below b_1 bx.lt
    replace bR := bR.below b_1 bR.lt
    replace ht := ht.below b_1 (by omega)
    replace hs := hs.below b_1 (by omega)
    replace hw := hw.below b_1 (by omega)
    replace ho4 := ho4.below b_1 (by omega)
    have z_2 := b_1.size
    replace b0 := b0.trans (b_1.mono (by omega))
    clear b_1
    have bx_0 := bx.c0
    have bx_1 := bx.c1
    have bx_2 := bx.c2
    have bx_3 := bx.c3
    have bx_z := bx.frozen
    have bx_l := bx.lt
    have bR_0 := bR.c0
    have bR_1 := bR.c1
    have bR_2 := bR.c2
    have bR_3 := bR.c3
    have bR_z := bR.frozen
    have bR_l := bR.lt
    go_wp2_with fail
    clear bx_0 bx_1 bx_2 bx_3 bx_z bx_l bR_0 bR_1 bR_2 bR_3 bR_z bR_l
    have c3 := Op_.contains_any 65 #[] (fun t => !t.ok) _ ops w1 ho4 (by omega) (enters Tryz.func65 (by kernel_rfl) rfl) (fun t W _ _ => badOp_any t W)
    rw [HN.out] at c3
    refine (c3).mono ?_; rintro q_ w3 ⟨rfl, b_3⟩
    replace bx := bx.below b_3 bx.lt
    replace bR := bR.below b_3 bR.lt
    replace ht := ht.below b_3 (by omega)
    replace hs := hs.below b_3 (by omega)
    replace hw := hw.below b_3 (by omega)
    replace ho4 := ho4.below b_3 (by omega)
    have z_4 := b_3.size
    replace b0 := b0.trans (b_3.mono (by omega))
    clear b_3
    have bx_0 := bx.c0
    have bx_1 := bx.c1
    have bx_2 := bx.c2
    have bx_3 := bx.c3
    have bx_z := bx.frozen
    have bx_l := bx.lt
    have bR_0 := bR.c0
    have bR_1 := bR.c1
    have bR_2 := bR.c2
    have bR_3 := bR.c3
    have bR_z := bR.frozen
    have bR_l := bR.lt
    go_wp2_with fail
    clear bx_0 bx_1 bx_2 bx_3 bx_z bx_l bR_0 bR_1 bR_2 bR_3 bR_z bR_l
    refine (implOwnF_any m _ _ _ st ls lw w3 ht hs hw (by omega) (by omega) (by omega) hl hl1 hl2).mono ?_; rintro q_ w5 ⟨v3, v4, v5, rfl, o3, o4, o5, b_5⟩
    replace bx := bx.below b_5 bx.lt
    replace bR := bR.below b_5 bR.lt
    replace ht := ht.below b_5 (by omega)
    replace hs := hs.below b_5 (by omega)
    replace hw := hw.below b_5 (by omega)
    replace ho4 := ho4.below b_5 (by omega)
    have z_6 := b_5.size
    replace b0 := b0.trans (b_5.mono (by omega))
    clear b_5
    obtain ⟨B3, m3, e3, rfl, _, _, _⟩ := o3.rd.form
    obtain ⟨B4, m4, e4, rfl, _, _, _⟩ := o4.rd.form
    obtain ⟨B5, m5, e5, rfl, _, _, _⟩ := o5.rd.form
    have bx_0 := bx.c0
    have bx_1 := bx.c1
    have bx_2 := bx.c2
    have bx_3 := bx.c3
    have bx_z := bx.frozen
    have bx_l := bx.lt
    have bR_0 := bR.c0
    have bR_1 := bR.c1
    have bR_2 := bR.c2
    have bR_3 := bR.c3
    have bR_z := bR.frozen
    have bR_l := bR.lt
    go_upto_region 4 with fail
    clear bx_0 bx_1 bx_2 bx_3 bx_z bx_l bR_0 bR_1 bR_2 bR_3 bR_z bR_l
    have oK := own_empty w5 (base := w.heap.size + 2) 3 1 (by omega)
    have bE := (Below.refl w5.heap.size w5).alloc (Nat.le_refl _) (.cells #[] 3)
    have zE : (w5.alloc (.cells #[] 3)).heap.size = w5.heap.size + 1 := by simp
    replace bx := bx.below bE bx.lt
    replace bR := bR.below bE bR.lt
    replace ht := ht.below bE (by omega)
    replace hs := hs.below bE (by omega)
    replace hw := hw.below bE (by omega)
    replace ho4 := ho4.below bE (by omega)
    replace o3 := o3.below bE (by omega)
    replace o4 := o4.below bE (by omega)
    replace o5 := o5.below bE (by omega)
    have z_7 := bE.size
    replace b0 := b0.trans (bE.mono (by omega))
    clear bE
    generalize w5.alloc _ = wK at *
    have bF := (Below.refl wK.heap.size wK).alloc (Nat.le_refl _) (.cells #[.int .i64 m, .slice B3 m3 e3, .slice B4 m4 e4, .slice B5 m5 e5] 30)
    have bO := Box.new (g := w5.heap.size + 1) wK #[.int .i64 m, .slice B3 m3 e3, .slice B4 m4 e4, .slice B5 m5 e5] 30 zE.symm
    have zF : (wK.alloc (.cells #[.int .i64 m, .slice B3 m3 e3, .slice B4 m4 e4, .slice B5 m5 e5] 30)).heap.size = wK.heap.size + 1 := by simp
    replace bx := bx.below bF bx.lt
    replace bR := bR.below bF bR.lt
    replace ht := ht.below bF (by omega)
    replace hs := hs.below bF (by omega)
    replace hw := hw.below bF (by omega)
    replace ho4 := ho4.below bF (by omega)
    replace o3 := o3.below bF (by omega)
    replace o4 := o4.below bF (by omega)
    replace o5 := o5.below bF (by omega)
    replace oK := own_below oK bF
    have z_8 := bF.size
    replace b0 := b0.trans (bF.mono (by omega))
    clear bF
    generalize wK.alloc _ = wL at *
    clear bx ht hs hw
    have zgO : w.heap.size + 2 ≤ w5.heap.size + 1 := by omega
    generalize hgO : w5.heap.size + 1 = gO at *
    clear hgO
    have bR_0 := bR.c0
    have bR_1 := bR.c1
    have bR_2 := bR.c2
    have bR_3 := bR.c3
    have bR_z := bR.frozen
    have bR_l := bR.lt
    have bO_0 := bO.c0
    have bO_1 := bO.c1
    have bO_2 := bO.c2
    have bO_3 := bO.c3
    have bO_z := bO.frozen
    have bO_l := bO.lt
    go_wp2_with fail
    clear bR_0 bR_1 bR_2 bR_3 bR_z bR_l bO_0 bO_1 bO_2 bO_3 bO_z bO_l
    go_loopw [8, 35] (fun u8 u35 wr => ∃ (k j : Nat) (S : FS) (xs : List Int) (At A0 A1 : Option Addr) (nt dt n0 d0 n1 d1 lo hi : Nat), k ≤ n6 ∧ u35 = .int .i64 k ∧ Hid (FS.runs (⟨m, st, ls, lw⟩, []) (ops.take k) = (S, xs)) ∧ Hid (S.good = true) ∧ Hid (j = xs.length) ∧ j ≤ k ∧ Below w.heap.size w wr ∧ w.heap.size + 2 ≤ wr.heap.size ∧ Box wr gO 30 [.int .i64 S.m, .slice At nt dt, .slice A0 n0 d0, .slice A1 n1 d1] ∧ Box wr (w.heap.size + 1) 30 [.int .i64 0, .slice none 0 0, .slice none 0 0, .slice none 0 0] ∧ Ow Nm.cells 1 3 wr lo hi (.slice At nt dt) S.st ∧ Ow Sl.cells 3 93 wr lo hi (.slice A0 n0 d0) S.ls ∧ Ow Wt.cells 2 107 wr lo hi (.slice A1 n1 d1) S.lw ∧ w.heap.size ≤ lo ∧ hi ≤ wr.heap.size ∧ (∀ g, u8.ownBlock = some g → g < lo ∨ hi ≤ g) ∧ wr.ownsRow (w.heap.size + 2) 3 1 u8 j (xs.flatMap Nm.cells) ∧ Rd Op_.cells 3 wr lo4 hi4 (.slice A6 n6 d6) ops) (fun _ u35 _ => n6 - (intOf u35).toNat)
    case atStart => exact ⟨0, 0, ⟨m, st, ls, lw⟩, [], _, _, _, _, _, _, _, _, _, _, _, Nat.zero_le _, rfl, Lib.hid rfl, HG0, Lib.hid rfl, Nat.le_refl _, b0, by omega, bO, bR, o3, o4, o5, by omega, by omega, (by intro g hg; simp [Value.ownBlock] at hg; omega), oK, ho4⟩
    case round =>
     clear b0 bO bR o3 o4 o5 oK ho4
     obtain ⟨k, j, S, xs, At, A0, A1, nt, dt, n0, d0, n1, d1, lo', hi', hk, rfl, HR, HS, HJ, hj, hB, zw, bO, bR, ot, os, ow, zl, zh, hu, oK, ho4⟩ := hrel
     by_cases hlt : k < n6
     ·obtain ⟨b, off, o, rfl, HO, _, hbh, f0, f1, f2⟩ := Op_.get ho4 hlt (Below.refl wr.heap.size wr) (by omega)
      have hki : (k : Int) < (n6 : Int) := by omega
      have HV := Lib.hid (List.all_eq_true.1 HA.out o (List.mem_of_getElem? HO.out))
      have hS4 := FS.good_len HS.out
      have hSp : Qu.parts S.ls S.lw = true := (Qu.good_parts (FS.good_iff.1 HS.out).2.1).1
      have huL : ∀ g, u8.ownBlock = some g → g < wr.heap.size := fun g hg => own_lt oK g hg
      have hvk := (Op_.ok_iff o).1 HV.out
      by_cases h1 : o.kind = 1
      ·have HI := Lib.hid (show inB o.irq 0 7 = true from by rcases hvk with h | h | h <;> simp_all <;> omega)
       have HP := Lib.hid (show inB o.prio 0 15 = true from by rcases hvk with h | h | h <;> simp_all <;> omega)
       have HS2 := Lib.hid (FS.rose_good HS.out HI.out HP.out)
       have HQ := Lib.hid hSp
       have HR2 := Lib.hid (show FS.runs (⟨m, st, ls, lw⟩, []) (ops.take (k + 1)) = (S.rose o.irq o.prio, xs) from (FS.runs_pre HO.out).trans (by rw [HR.out]; exact FS.next_rose h1))
       rw [h1] at f0
       clear h1 hvk hSp HV
       have bO_0 := bO.c0
       have bO_1 := bO.c1
       have bO_2 := bO.c2
       have bO_3 := bO.c3
       have bO_z := bO.frozen
       have bO_l := bO.lt
       have bR_0 := bR.c0
       have bR_1 := bR.c1
       have bR_2 := bR.c2
       have bR_3 := bR.c3
       have bR_z := bR.frozen
       have bR_l := bR.lt
       go_upto_region 7 with fail
       clear bO_0 bO_1 bO_2 bO_3 bO_z bO_l bR_0 bR_1 bR_2 bR_3 bR_z bR_l
       have b_201 := (Below.refl wr.heap.size wr).alloc (Nat.le_refl _) (.cells #[.int .i64 1, .int .i64 o.irq, .int .i64 o.prio] 54)
       have bP := Box.new wr #[.int .i64 1, .int .i64 o.irq, .int .i64 o.prio] 54 rfl
       replace bO := bO.below b_201 bO.lt
       replace bR := bR.below b_201 bR.lt
       replace ot := ot.below b_201 (by omega)
       replace os := os.below b_201 (by omega)
       replace ow := ow.below b_201 (by omega)
       replace ho4 := ho4.below b_201 (by omega)
       replace oK := own_below oK b_201
       have z_202 := b_201.size
       replace hB := hB.trans (b_201.mono (by omega))
       clear b_201
       generalize wr.alloc _ = w201 at *
       generalize wr.heap.size = g201 at *
       have bO_0 := bO.c0
       have bO_1 := bO.c1
       have bO_2 := bO.c2
       have bO_3 := bO.c3
       have bO_z := bO.frozen
       have bO_l := bO.lt
       have bR_0 := bR.c0
       have bR_1 := bR.c1
       have bR_2 := bR.c2
       have bR_3 := bR.c3
       have bR_z := bR.frozen
       have bR_l := bR.lt
       have bP_0 := bP.c0
       have bP_1 := bP.c1
       have bP_2 := bP.c2
       have bP_z := bP.frozen
       have bP_l := bP.lt
       go_wp2_with fail
       clear bO_0 bO_1 bO_2 bO_3 bO_z bO_l bR_0 bR_1 bR_2 bR_3 bR_z bR_l bP_0 bP_1 bP_2 bP_z bP_l
       have huC : ∀ g, u8.ownBlock = some g → g < w201.heap.size := fun g hg => by have := huL g hg; omega
       refine (implRaise_in S.m _ _ _ S.st S.ls S.lw w201 ot.rd os.rd ow.rd (by omega) (by omega) (by omega) o.irq o.prio (by omega) HQ.out HI.out HP.out).mono ?_; rintro q_ w203 ⟨v3, v4, v5, rfl, o3, o4, o5, b_203⟩
       replace bO := bO.below b_203 bO.lt
       replace bR := bR.below b_203 bR.lt
       replace bP := bP.below b_203 bP.lt
       replace ot := ot.below b_203 (by omega)
       replace os := os.below b_203 (by omega)
       replace ow := ow.below b_203 (by omega)
       replace ho4 := ho4.below b_203 (by omega)
       replace oK := own_below oK b_203
       have z_204 := b_203.size
       replace hB := hB.trans (b_203.mono (by omega))
       clear b_203
       obtain ⟨B3, m3, e3, rfl, _, _, _⟩ := o3.rd.form
       obtain ⟨B4, m4, e4, rfl, _, _, _⟩ := o4.rd.form
       obtain ⟨B5, m5, e5, rfl, _, _, _⟩ := o5.rd.form
       clear ot os ow f0 f1 f2
       have bO_0 := bO.c0
       have bO_1 := bO.c1
       have bO_2 := bO.c2
       have bO_3 := bO.c3
       have bO_z := bO.frozen
       have bO_l := bO.lt
       have bR_0 := bR.c0
       have bR_1 := bR.c1
       have bR_2 := bR.c2
       have bR_3 := bR.c3
       have bR_z := bR.frozen
       have bR_l := bR.lt
       have bP_0 := bP.c0
       have bP_1 := bP.c1
       have bP_2 := bP.c2
       have bP_z := bP.frozen
       have bP_l := bP.lt
       go_wp2_with fail
       clear bO_0 bO_1 bO_2 bO_3 bO_z bO_l bR_0 bR_1 bR_2 bR_3 bR_z bR_l bP_0 bP_1 bP_2 bP_z bP_l
       go_roundw
       case rel =>
        clear bP
        generalize hwz : World.setCell (World.setCell (World.setCell (World.setCell _ _ _) _ _) _ _) _ _ = wz_
        obtain rfl : wz_ = setL w203 (gO) 0 [.int .i64 S.m, .slice B3 m3 e3, .slice B4 m4 e4, .slice B5 m5 e5] := hwz.symm
        clear hwz
        replace bR := bR.other (b := gO) (by omega) 0 [.int .i64 S.m, .slice B3 m3 e3, .slice B4 m4 e4, .slice B5 m5 e5]
        replace ho4 := ho4.away (g := gO) (by omega) 0 [.int .i64 S.m, .slice B3 m3 e3, .slice B4 m4 e4, .slice B5 m5 e5]
        replace o3 := o3.box (g := gO) bO (by decide) 0 [.int .i64 S.m, .slice B3 m3 e3, .slice B4 m4 e4, .slice B5 m5 e5]
        replace o4 := o4.box (g := gO) bO (by decide) 0 [.int .i64 S.m, .slice B3 m3 e3, .slice B4 m4 e4, .slice B5 m5 e5]
        replace o5 := o5.box (g := gO) bO (by decide) 0 [.int .i64 S.m, .slice B3 m3 e3, .slice B4 m4 e4, .slice B5 m5 e5]
        replace oK := own_box oK bO (by decide) 0 [.int .i64 S.m, .slice B3 m3 e3, .slice B4 m4 e4, .slice B5 m5 e5]
        replace hB := setL_below hB [.int .i64 S.m, .slice B3 m3 e3, .slice B4 m4 e4, .slice B5 m5 e5] (gO) 0 (by omega)
        have zs_205 : (setL w203 (gO) 0 [.int .i64 S.m, .slice B3 m3 e3, .slice B4 m4 e4, .slice B5 m5 e5]).heap.size = w203.heap.size := setL_size _ _ _ _
        replace bO := bO.setAll [.int .i64 S.m, .slice B3 m3 e3, .slice B4 m4 e4, .slice B5 m5 e5] rfl
        generalize setL w203 _ 0 _ = w205 at *
        exact ⟨k + 1, j, S.rose o.irq o.prio, xs, _, _, _, _, _, _, _, _, _, _, _, by omega, by go_num, HR2, HS2, Lib.hid HJ.out, by omega, hB, by omega, bO, bR, o3, o4, o5, by omega, by omega, (fun g hg => by have := huC g hg; omega), oK, ho4⟩
       case measure => simp [intOf]; omega
      by_cases h4 : o.kind = 4
      ·have hM : inB o.prio 0 16 = true := by rcases hvk with h | h | h <;> simp_all <;> omega
       have HS2 := Lib.hid (FS.masked_good HS.out hM)
       clear hM
       have HR2 := Lib.hid (show FS.runs (⟨m, st, ls, lw⟩, []) (ops.take (k + 1)) = (S.masked o.prio, xs) from (FS.runs_pre HO.out).trans (by rw [HR.out]; exact FS.next_mask h4))
       rw [h4] at f0
       clear h1 h4 hvk hSp HV
       have bO_0 := bO.c0
       have bO_1 := bO.c1
       have bO_2 := bO.c2
       have bO_3 := bO.c3
       have bO_z := bO.frozen
       have bO_l := bO.lt
       have bR_0 := bR.c0
       have bR_1 := bR.c1
       have bR_2 := bR.c2
       have bR_3 := bR.c3
       have bR_z := bR.frozen
       have bR_l := bR.lt
       go_upto_region 7 with fail
       clear bO_0 bO_1 bO_2 bO_3 bO_z bO_l bR_0 bR_1 bR_2 bR_3 bR_z bR_l
       have b_201 := (Below.refl wr.heap.size wr).alloc (Nat.le_refl _) (.cells #[.int .i64 4, .int .i64 o.irq, .int .i64 o.prio] 54)
       have bP := Box.new wr #[.int .i64 4, .int .i64 o.irq, .int .i64 o.prio] 54 rfl
       replace bO := bO.below b_201 bO.lt
       replace bR := bR.below b_201 bR.lt
       replace ot := ot.below b_201 (by omega)
       replace os := os.below b_201 (by omega)
       replace ow := ow.below b_201 (by omega)
       replace ho4 := ho4.below b_201 (by omega)
       replace oK := own_below oK b_201
       have z_202 := b_201.size
       replace hB := hB.trans (b_201.mono (by omega))
       clear b_201
       generalize wr.alloc _ = w201 at *
       generalize wr.heap.size = g201 at *
       have bO_0 := bO.c0
       have bO_1 := bO.c1
       have bO_2 := bO.c2
       have bO_3 := bO.c3
       have bO_z := bO.frozen
       have bO_l := bO.lt
       have bR_0 := bR.c0
       have bR_1 := bR.c1
       have bR_2 := bR.c2
       have bR_3 := bR.c3
       have bR_z := bR.frozen
       have bR_l := bR.lt
       have bP_0 := bP.c0
       have bP_1 := bP.c1
       have bP_2 := bP.c2
       have bP_z := bP.frozen
       have bP_l := bP.lt
       go_wp2_with fail
       clear bO_0 bO_1 bO_2 bO_3 bO_z bO_l bR_0 bR_1 bR_2 bR_3 bR_z bR_l bP_0 bP_1 bP_2 bP_z bP_l
       have huC : ∀ g, u8.ownBlock = some g → g < w201.heap.size := fun g hg => by have := huL g hg; omega
       refine (implSetF_any S.m _ _ _ S.st S.ls S.lw w201 ot.rd os.rd ow.rd (by omega) (by omega) (by omega) o.prio (by omega) (by omega) (by omega)).mono ?_; rintro q_ w203 ⟨v3, v4, v5, rfl, o3, o4, o5, b_203⟩
       replace bO := bO.below b_203 bO.lt
       replace bR := bR.below b_203 bR.lt
       replace bP := bP.below b_203 bP.lt
       replace ot := ot.below b_203 (by omega)
       replace os := os.below b_203 (by omega)
       replace ow := ow.below b_203 (by omega)
       replace ho4 := ho4.below b_203 (by omega)
       replace oK := own_below oK b_203
       have z_204 := b_203.size
       replace hB := hB.trans (b_203.mono (by omega))
       clear b_203
       obtain ⟨B3, m3, e3, rfl, _, _, _⟩ := o3.rd.form
       obtain ⟨B4, m4, e4, rfl, _, _, _⟩ := o4.rd.form
       obtain ⟨B5, m5, e5, rfl, _, _, _⟩ := o5.rd.form
       clear ot os ow f0 f1 f2
       have bO_0 := bO.c0
       have bO_1 := bO.c1
       have bO_2 := bO.c2
       have bO_3 := bO.c3
       have bO_z := bO.frozen
       have bO_l := bO.lt
       have bR_0 := bR.c0
       have bR_1 := bR.c1
       have bR_2 := bR.c2
       have bR_3 := bR.c3
       have bR_z := bR.frozen
       have bR_l := bR.lt
       have bP_0 := bP.c0
       have bP_1 := bP.c1
       have bP_2 := bP.c2
       have bP_z := bP.frozen
       have bP_l := bP.lt
       go_wp2_with fail
       clear bO_0 bO_1 bO_2 bO_3 bO_z bO_l bR_0 bR_1 bR_2 bR_3 bR_z bR_l bP_0 bP_1 bP_2 bP_z bP_l
       go_roundw
       case rel =>
        clear bP
        generalize hwz : World.setCell (World.setCell (World.setCell (World.setCell _ _ _) _ _) _ _) _ _ = wz_
        obtain rfl : wz_ = setL w203 (gO) 0 [.int .i64 o.prio, .slice B3 m3 e3, .slice B4 m4 e4, .slice B5 m5 e5] := hwz.symm
        clear hwz
        replace bR := bR.other (b := gO) (by omega) 0 [.int .i64 o.prio, .slice B3 m3 e3, .slice B4 m4 e4, .slice B5 m5 e5]
        replace ho4 := ho4.away (g := gO) (by omega) 0 [.int .i64 o.prio, .slice B3 m3 e3, .slice B4 m4 e4, .slice B5 m5 e5]
        replace o3 := o3.box (g := gO) bO (by decide) 0 [.int .i64 o.prio, .slice B3 m3 e3, .slice B4 m4 e4, .slice B5 m5 e5]
        replace o4 := o4.box (g := gO) bO (by decide) 0 [.int .i64 o.prio, .slice B3 m3 e3, .slice B4 m4 e4, .slice B5 m5 e5]
        replace o5 := o5.box (g := gO) bO (by decide) 0 [.int .i64 o.prio, .slice B3 m3 e3, .slice B4 m4 e4, .slice B5 m5 e5]
        replace oK := own_box oK bO (by decide) 0 [.int .i64 o.prio, .slice B3 m3 e3, .slice B4 m4 e4, .slice B5 m5 e5]
        replace hB := setL_below hB [.int .i64 o.prio, .slice B3 m3 e3, .slice B4 m4 e4, .slice B5 m5 e5] (gO) 0 (by omega)
        have zs_205 : (setL w203 (gO) 0 [.int .i64 o.prio, .slice B3 m3 e3, .slice B4 m4 e4, .slice B5 m5 e5]).heap.size = w203.heap.size := setL_size _ _ _ _
        replace bO := bO.setAll [.int .i64 o.prio, .slice B3 m3 e3, .slice B4 m4 e4, .slice B5 m5 e5] rfl
        generalize setL w203 _ 0 _ = w205 at *
        exact ⟨k + 1, j, S.masked o.prio, xs, _, _, _, _, _, _, _, _, _, _, _, by omega, by go_num, HR2, HS2, Lib.hid HJ.out, by omega, hB, by omega, bO, bR, o3, o4, o5, by omega, by omega, (fun g hg => by have := huC g hg; omega), oK, ho4⟩
       case measure => simp [intOf]; omega
      by_cases h2 : o.kind = 2
      ·clear h1
       have HX := Lib.hid (Fa.slots HS.out)
       have HGs := Lib.hid (Fa.good_sl HS.out)
       rw [h2] at f0
       cases hk : S.tk
       ·have HS2 := HS
        have HR2 := Lib.hid (show FS.runs (⟨m, st, ls, lw⟩, []) (ops.take (k + 1)) = (S, xs) from (FS.runs_pre HO.out).trans (by rw [HR.out]; exact FS.next_none h2 hk))
        have HK := Lib.hid (show Fa.tkM S.m S.ls (minI S.m (Fa.run S.st S.ls)) = 0 ∧ Fa.tkU S.st S.ls (minI S.m (Fa.run S.st S.ls)) = [] ∧ Sl.tkR S.ls (minI S.m (Fa.run S.st S.ls)) = [] ∧ Qu.tkK S.ls (minI S.m (Fa.run S.st S.ls)) S.lw = [] ∧ Sl.tkV S.ls (minI S.m (Fa.run S.st S.ls)) = 0 ∧ Sl.tkOk S.ls (minI S.m (Fa.run S.st S.ls)) = false from by unfold FS.tk at hk; simp [Fa.tkM, Fa.tkU, Sl.tkR, Qu.tkK, Sl.tkV, hk])
        clear h2 hk hvk hSp HV
        have bO_0 := bO.c0
        have bO_1 := bO.c1
        have bO_2 := bO.c2
        have bO_3 := bO.c3
        have bO_z := bO.frozen
        have bO_l := bO.lt
        have bR_0 := bR.c0
        have bR_1 := bR.c1
        have bR_2 := bR.c2
        have bR_3 := bR.c3
        have bR_z := bR.frozen
        have bR_l := bR.lt
        go_upto_region 7 with fail
        clear bO_0 bO_1 bO_2 bO_3 bO_z bO_l bR_0 bR_1 bR_2 bR_3 bR_z bR_l
        have b_201 := (Below.refl wr.heap.size wr).alloc (Nat.le_refl _) (.cells #[.int .i64 2, .int .i64 o.irq, .int .i64 o.prio] 54)
        have bP := Box.new wr #[.int .i64 2, .int .i64 o.irq, .int .i64 o.prio] 54 rfl
        replace bO := bO.below b_201 bO.lt
        replace bR := bR.below b_201 bR.lt
        replace ot := ot.below b_201 (by omega)
        replace os := os.below b_201 (by omega)
        replace ow := ow.below b_201 (by omega)
        replace ho4 := ho4.below b_201 (by omega)
        replace oK := own_below oK b_201
        have z_202 := b_201.size
        replace hB := hB.trans (b_201.mono (by omega))
        clear b_201
        generalize wr.alloc _ = w201 at *
        generalize wr.heap.size = g201 at *
        have bO_0 := bO.c0
        have bO_1 := bO.c1
        have bO_2 := bO.c2
        have bO_3 := bO.c3
        have bO_z := bO.frozen
        have bO_l := bO.lt
        have bR_0 := bR.c0
        have bR_1 := bR.c1
        have bR_2 := bR.c2
        have bR_3 := bR.c3
        have bR_z := bR.frozen
        have bR_l := bR.lt
        have bP_0 := bP.c0
        have bP_1 := bP.c1
        have bP_2 := bP.c2
        have bP_z := bP.frozen
        have bP_l := bP.lt
        go_wp2_with fail
        clear bO_0 bO_1 bO_2 bO_3 bO_z bO_l bR_0 bR_1 bR_2 bR_3 bR_z bR_l bP_0 bP_1 bP_2 bP_z bP_l
        have c2 := implTakeF_in S.m _ _ _ S.st S.ls S.lw w201 ot.rd os.rd ow.rd (by omega) (by omega) (by omega) HGs.out HX.out (by omega) (by omega)
        rw [HK.out.1, HK.out.2.1, HK.out.2.2.1, HK.out.2.2.2.1, HK.out.2.2.2.2.1, HK.out.2.2.2.2.2] at c2
        have huC : ∀ g, u8.ownBlock = some g → g < w201.heap.size := fun g hg => by have := huL g hg; omega
        refine (c2).mono ?_; rintro q_ w203 ⟨v3, v4, v5, rfl, o3, o4, o5, b_203⟩
        replace bO := bO.below b_203 bO.lt
        replace bR := bR.below b_203 bR.lt
        replace bP := bP.below b_203 bP.lt
        replace ot := ot.below b_203 (by omega)
        replace os := os.below b_203 (by omega)
        replace ow := ow.below b_203 (by omega)
        replace ho4 := ho4.below b_203 (by omega)
        replace oK := own_below oK b_203
        have z_204 := b_203.size
        replace hB := hB.trans (b_203.mono (by omega))
        clear b_203
        obtain ⟨B3, m3, e3, rfl, _, _, _⟩ := o3.rd.form
        obtain ⟨B4, m4, e4, rfl, _, _, _⟩ := o4.rd.form
        obtain ⟨B5, m5, e5, rfl, _, _, _⟩ := o5.rd.form
        clear f0 f1 f2
        have bO_0 := bO.c0
        have bO_1 := bO.c1
        have bO_2 := bO.c2
        have bO_3 := bO.c3
        have bO_z := bO.frozen
        have bO_l := bO.lt
        have bR_0 := bR.c0
        have bR_1 := bR.c1
        have bR_2 := bR.c2
        have bR_3 := bR.c3
        have bR_z := bR.frozen
        have bR_l := bR.lt
        have bP_0 := bP.c0
        have bP_1 := bP.c1
        have bP_2 := bP.c2
        have bP_z := bP.frozen
        have bP_l := bP.lt
        go_upto_region 14 with fail
        clear bO_0 bO_1 bO_2 bO_3 bO_z bO_l bR_0 bR_1 bR_2 bR_3 bR_z bR_l bP_0 bP_1 bP_2 bP_z bP_l
        have b_205 := (Below.refl w203.heap.size w203).alloc (Nat.le_refl _) (.cells #[.int .i64 0, .slice B3 m3 e3, .slice B4 m4 e4, .slice B5 m5 e5] 30)
        have bN := Box.new w203 #[.int .i64 0, .slice B3 m3 e3, .slice B4 m4 e4, .slice B5 m5 e5] 30 rfl
        replace bO := bO.below b_205 bO.lt
        replace bR := bR.below b_205 bR.lt
        replace bP := bP.below b_205 bP.lt
        replace ot := ot.below b_205 (by omega)
        replace os := os.below b_205 (by omega)
        replace ow := ow.below b_205 (by omega)
        replace ho4 := ho4.below b_205 (by omega)
        replace o3 := o3.below b_205 (by omega)
        replace o4 := o4.below b_205 (by omega)
        replace o5 := o5.below b_205 (by omega)
        replace oK := own_below oK b_205
        have z_206 := b_205.size
        replace hB := hB.trans (b_205.mono (by omega))
        clear b_205
        generalize w203.alloc _ = w205 at *
        generalize w203.heap.size = g205 at *
        have bO_0 := bO.c0
        have bO_1 := bO.c1
        have bO_2 := bO.c2
        have bO_3 := bO.c3
        have bO_z := bO.frozen
        have bO_l := bO.lt
        have bR_0 := bR.c0
        have bR_1 := bR.c1
        have bR_2 := bR.c2
        have bR_3 := bR.c3
        have bR_z := bR.frozen
        have bR_l := bR.lt
        have bP_0 := bP.c0
        have bP_1 := bP.c1
        have bP_2 := bP.c2
        have bP_z := bP.frozen
        have bP_l := bP.lt
        have bN_0 := bN.c0
        have bN_1 := bN.c1
        have bN_2 := bN.c2
        have bN_3 := bN.c3
        have bN_z := bN.frozen
        have bN_l := bN.lt
        go_wp2_with fail
        clear bO_0 bO_1 bO_2 bO_3 bO_z bO_l bR_0 bR_1 bR_2 bR_3 bR_z bR_l bP_0 bP_1 bP_2 bP_z bP_l bN_0 bN_1 bN_2 bN_3 bN_z bN_l
        go_roundw
        case rel =>
         clear bN
         clear bP
         exact ⟨k + 1, j, S, xs, _, _, _, _, _, _, _, _, _, _, _, by omega, by go_num, HR2, HS2, Lib.hid HJ.out, by omega, hB, by omega, bO, bR, ot, os, ow, by omega, by omega, (fun g hg => hu g hg), oK, ho4⟩
        case measure => simp [intOf]; omega
       ·have HS2 := Lib.hid (FS.took_good HS.out hk)
        have HR2 := Lib.hid (show FS.runs (⟨m, st, ls, lw⟩, []) (ops.take (k + 1)) = (S.took, xs ++ [Sl.tkI S.ls]) from (FS.runs_pre HO.out).trans (by rw [HR.out]; exact FS.next_took h2 hk))
        have hI := Sl.tk_irq HGs.out hk
        have hId : decide ((0 : Int) ≤ Sl.tkI S.ls) = true := decide_eq_true (by omega)
        have HK := Lib.hid (show Fa.tkM S.m S.ls (minI S.m (Fa.run S.st S.ls)) = S.m ∧ Fa.tkU S.st S.ls (minI S.m (Fa.run S.st S.ls)) = S.st ++ [Sl.tkI S.ls] ∧ Sl.tkR S.ls (minI S.m (Fa.run S.st S.ls)) = Sl.tkS S.ls ∧ Qu.tkK S.ls (minI S.m (Fa.run S.st S.ls)) S.lw = S.lw ∧ Sl.tkV S.ls (minI S.m (Fa.run S.st S.ls)) = Sl.tkI S.ls ∧ Sl.tkOk S.ls (minI S.m (Fa.run S.st S.ls)) = true from by unfold FS.tk at hk; simp [Fa.tkM, Fa.tkU, Sl.tkR, Qu.tkK, Sl.tkV, hk])
        clear h2 hk hvk hSp HV
        have bO_0 := bO.c0
        have bO_1 := bO.c1
        have bO_2 := bO.c2
        have bO_3 := bO.c3
        have bO_z := bO.frozen
        have bO_l := bO.lt
        have bR_0 := bR.c0
        have bR_1 := bR.c1
        have bR_2 := bR.c2
        have bR_3 := bR.c3
        have bR_z := bR.frozen
        have bR_l := bR.lt
        go_upto_region 7 with fail
        clear bO_0 bO_1 bO_2 bO_3 bO_z bO_l bR_0 bR_1 bR_2 bR_3 bR_z bR_l
        have b_201 := (Below.refl wr.heap.size wr).alloc (Nat.le_refl _) (.cells #[.int .i64 2, .int .i64 o.irq, .int .i64 o.prio] 54)
        have bP := Box.new wr #[.int .i64 2, .int .i64 o.irq, .int .i64 o.prio] 54 rfl
        replace bO := bO.below b_201 bO.lt
        replace bR := bR.below b_201 bR.lt
        replace ot := ot.below b_201 (by omega)
        replace os := os.below b_201 (by omega)
        replace ow := ow.below b_201 (by omega)
        replace ho4 := ho4.below b_201 (by omega)
        replace oK := own_below oK b_201
        have z_202 := b_201.size
        replace hB := hB.trans (b_201.mono (by omega))
        clear b_201
        generalize wr.alloc _ = w201 at *
        generalize wr.heap.size = g201 at *
        have bO_0 := bO.c0
        have bO_1 := bO.c1
        have bO_2 := bO.c2
        have bO_3 := bO.c3
        have bO_z := bO.frozen
        have bO_l := bO.lt
        have bR_0 := bR.c0
        have bR_1 := bR.c1
        have bR_2 := bR.c2
        have bR_3 := bR.c3
        have bR_z := bR.frozen
        have bR_l := bR.lt
        have bP_0 := bP.c0
        have bP_1 := bP.c1
        have bP_2 := bP.c2
        have bP_z := bP.frozen
        have bP_l := bP.lt
        go_wp2_with fail
        clear bO_0 bO_1 bO_2 bO_3 bO_z bO_l bR_0 bR_1 bR_2 bR_3 bR_z bR_l bP_0 bP_1 bP_2 bP_z bP_l
        have c2 := implTakeF_in S.m _ _ _ S.st S.ls S.lw w201 ot.rd os.rd ow.rd (by omega) (by omega) (by omega) HGs.out HX.out (by omega) (by omega)
        rw [HK.out.1, HK.out.2.1, HK.out.2.2.1, HK.out.2.2.2.1, HK.out.2.2.2.2.1, HK.out.2.2.2.2.2] at c2
        have huC : ∀ g, u8.ownBlock = some g → g < w201.heap.size := fun g hg => by have := huL g hg; omega
        refine (c2).mono ?_; rintro q_ w203 ⟨v3, v4, v5, rfl, o3, o4, o5, b_203⟩
        replace bO := bO.below b_203 bO.lt
        replace bR := bR.below b_203 bR.lt
        replace bP := bP.below b_203 bP.lt
        replace ot := ot.below b_203 (by omega)
        replace os := os.below b_203 (by omega)
        replace ow := ow.below b_203 (by omega)
        replace ho4 := ho4.below b_203 (by omega)
        replace oK := own_below oK b_203
        have z_204 := b_203.size
        replace hB := hB.trans (b_203.mono (by omega))
        clear b_203
        obtain ⟨B3, m3, e3, rfl, _, _, _⟩ := o3.rd.form
        obtain ⟨B4, m4, e4, rfl, _, _, _⟩ := o4.rd.form
        obtain ⟨B5, m5, e5, rfl, _, _, _⟩ := o5.rd.form
        clear ot os ow f0 f1 f2
        have bO_0 := bO.c0
        have bO_1 := bO.c1
        have bO_2 := bO.c2
        have bO_3 := bO.c3
        have bO_z := bO.frozen
        have bO_l := bO.lt
        have bR_0 := bR.c0
        have bR_1 := bR.c1
        have bR_2 := bR.c2
        have bR_3 := bR.c3
        have bR_z := bR.frozen
        have bR_l := bR.lt
        have bP_0 := bP.c0
        have bP_1 := bP.c1
        have bP_2 := bP.c2
        have bP_z := bP.frozen
        have bP_l := bP.lt
        go_upto_region 14 with fail
        clear bO_0 bO_1 bO_2 bO_3 bO_z bO_l bR_0 bR_1 bR_2 bR_3 bR_z bR_l bP_0 bP_1 bP_2 bP_z bP_l
        have b_205 := (Below.refl w203.heap.size w203).alloc (Nat.le_refl _) (.cells #[.int .i64 S.m, .slice B3 m3 e3, .slice B4 m4 e4, .slice B5 m5 e5] 30)
        have bN := Box.new w203 #[.int .i64 S.m, .slice B3 m3 e3, .slice B4 m4 e4, .slice B5 m5 e5] 30 rfl
        replace bO := bO.below b_205 bO.lt
        replace bR := bR.below b_205 bR.lt
        replace bP := bP.below b_205 bP.lt
        replace ho4 := ho4.below b_205 (by omega)
        replace o3 := o3.below b_205 (by omega)
        replace o4 := o4.below b_205 (by omega)
        replace o5 := o5.below b_205 (by omega)
        replace oK := own_below oK b_205
        have z_206 := b_205.size
        replace hB := hB.trans (b_205.mono (by omega))
        clear b_205
        generalize w203.alloc _ = w205 at *
        generalize w203.heap.size = g205 at *
        have bO_0 := bO.c0
        have bO_1 := bO.c1
        have bO_2 := bO.c2
        have bO_3 := bO.c3
        have bO_z := bO.frozen
        have bO_l := bO.lt
        have bR_0 := bR.c0
        have bR_1 := bR.c1
        have bR_2 := bR.c2
        have bR_3 := bR.c3
        have bR_z := bR.frozen
        have bR_l := bR.lt
        have bP_0 := bP.c0
        have bP_1 := bP.c1
        have bP_2 := bP.c2
        have bP_z := bP.frozen
        have bP_l := bP.lt
        have bN_0 := bN.c0
        have bN_1 := bN.c1
        have bN_2 := bN.c2
        have bN_3 := bN.c3
        have bN_z := bN.frozen
        have bN_l := bN.lt
        go_upto_region 16 with fail
        clear bO_0 bO_1 bO_2 bO_3 bO_z bO_l bR_0 bR_1 bR_2 bR_3 bR_z bR_l bP_0 bP_1 bP_2 bP_z bP_l bN_0 bN_1 bN_2 bN_3 bN_z bN_l
        clear bN bP
        generalize hwz : World.setCell (World.setCell (World.setCell (World.setCell _ _ _) _ _) _ _) _ _ = wz_
        obtain rfl : wz_ = setL w205 (gO) 0 [.int .i64 S.m, .slice B3 m3 e3, .slice B4 m4 e4, .slice B5 m5 e5] := hwz.symm
        clear hwz
        replace bR := bR.other (b := gO) (by omega) 0 [.int .i64 S.m, .slice B3 m3 e3, .slice B4 m4 e4, .slice B5 m5 e5]
        replace ho4 := ho4.away (g := gO) (by omega) 0 [.int .i64 S.m, .slice B3 m3 e3, .slice B4 m4 e4, .slice B5 m5 e5]
        replace o3 := o3.box (g := gO) bO (by decide) 0 [.int .i64 S.m, .slice B3 m3 e3, .slice B4 m4 e4, .slice B5 m5 e5]
        replace o4 := o4.box (g := gO) bO (by decide) 0 [.int .i64 S.m, .slice B3 m3 e3, .slice B4 m4 e4, .slice B5 m5 e5]
        replace o5 := o5.box (g := gO) bO (by decide) 0 [.int .i64 S.m, .slice B3 m3 e3, .slice B4 m4 e4, .slice B5 m5 e5]
        replace oK := own_box oK bO (by decide) 0 [.int .i64 S.m, .slice B3 m3 e3, .slice B4 m4 e4, .slice B5 m5 e5]
        replace hB := setL_below hB [.int .i64 S.m, .slice B3 m3 e3, .slice B4 m4 e4, .slice B5 m5 e5] (gO) 0 (by omega)
        have zs_207 : (setL w205 (gO) 0 [.int .i64 S.m, .slice B3 m3 e3, .slice B4 m4 e4, .slice B5 m5 e5]).heap.size = w205.heap.size := setL_size _ _ _ _
        replace bO := bO.setAll [.int .i64 S.m, .slice B3 m3 e3, .slice B4 m4 e4, .slice B5 m5 e5] rfl
        generalize setL w205 _ 0 _ = w207 at *
        have zs_a := Nat.le_of_eq zs_207
        have zs_b := Nat.le_of_eq zs_207.symm
        clear zs_207
        have bL := (Below.refl w207.heap.size w207).alloc (Nat.le_refl _) (.cells #[.int .i64 (Sl.tkI S.ls)] 3)
        have zL : (w207.alloc (.cells #[.int .i64 (Sl.tkI S.ls)] 3)).heap.size = w207.heap.size + 1 := by simp
        have oKL := oK.alloc (.cells #[.int .i64 (Sl.tkI S.ls)] 3)
        go_wp2_with (at_builtin; (refine Nm.app_one2 rfl _ _ rfl (w.heap.size + 2) u8 j _ rfl oKL (g := w207.heap.size) (c := 1) (Sl.tkI S.ls) rfl (fun j u hu => cell_new _ _ _ rfl (by simpa [Nm.cells] using hu)) (by omega) (by omega) ?_); (intro v8 w8 oK8 g8 d8))
        replace bO := (bO.below bL bO.lt).grown_own oKL g8 (by decide)
        replace bR := (bR.below bL bR.lt).grown_own oKL g8 (by decide)
        replace ho4 := (ho4.below bL (by omega)).grown g8 (by omega) (fun g hg => by have := own_ge oKL g hg; omega)
        replace o3 := (o3.below bL (by omega)).grown_off g8 (fun g hg => by have := huC g hg; omega)
        replace o4 := (o4.below bL (by omega)).grown_own oKL g8 (by decide)
        replace o5 := (o5.below bL (by omega)).grown_own oKL g8 (by decide)
        replace hB := (hB.trans (bL.mono (by omega))).grown g8 (by omega) (fun g hg => by have := own_ge oKL g hg; omega)
        have z8 := g8.size
        rw [zL] at d8
        have oK8' : w8.ownsRow (w.heap.size + 2) 3 1 v8 (j + 1) ((xs ++ [(Sl.tkI S.ls)]).flatMap Nm.cells) := by rw [List.flatMap_append]; simpa using oK8
        clear oK8 oKL oK g8
        have oK8 := oK8'
        clear oK8' bL
        go_roundw
        case rel =>
         exact ⟨k + 1, j + 1, S.took, xs ++ [Sl.tkI S.ls], _, _, _, _, _, _, _, _, _, _, _, by omega, by go_num, HR2, HS2, Lib.hid (by rw [List.length_append, HJ.out]; rfl), by omega, hB, by omega, bO, bR, o3, o4, o5, by omega, by omega, (fun g hg => by rcases d8 with e | e <;> rw [e] at hg <;> first | (have := huC g hg; omega) | (simp at hg; omega)), oK8, ho4⟩
        case measure => simp [intOf]; omega
      have h3 : o.kind = 3 := Op_.kind3 HV.out h1 h2 h4
      clear h1 h2
      rw [h3] at f0
      by_cases hz : S.st.length = 0
      ·have HS2 := HS
       have HR2 := Lib.hid (show FS.runs (⟨m, st, ls, lw⟩, []) (ops.take (k + 1)) = (S, xs) from (FS.runs_pre HO.out).trans (by rw [HR.out]; exact FS.next_nil h3 hz))
       have hzn : S.st = [] := List.eq_nil_of_length_eq_zero hz
       clear h3 hz hvk hSp HV
       have bO_0 := bO.c0
       have bO_1 := bO.c1
       have bO_2 := bO.c2
       have bO_3 := bO.c3
       have bO_z := bO.frozen
       have bO_l := bO.lt
       have bR_0 := bR.c0
       have bR_1 := bR.c1
       have bR_2 := bR.c2
       have bR_3 := bR.c3
       have bR_z := bR.frozen
       have bR_l := bR.lt
       go_upto_region 7 with fail
       clear bO_0 bO_1 bO_2 bO_3 bO_z bO_l bR_0 bR_1 bR_2 bR_3 bR_z bR_l
       have b_201 := (Below.refl wr.heap.size wr).alloc (Nat.le_refl _) (.cells #[.int .i64 3, .int .i64 o.irq, .int .i64 o.prio] 54)
       have bP := Box.new wr #[.int .i64 3, .int .i64 o.irq, .int .i64 o.prio] 54 rfl
       replace bO := bO.below b_201 bO.lt
       replace bR := bR.below b_201 bR.lt
       replace ot := ot.below b_201 (by omega)
       replace os := os.below b_201 (by omega)
       replace ow := ow.below b_201 (by omega)
       replace ho4 := ho4.below b_201 (by omega)
       replace oK := own_below oK b_201
       have z_202 := b_201.size
       replace hB := hB.trans (b_201.mono (by omega))
       clear b_201
       generalize wr.alloc _ = w201 at *
       generalize wr.heap.size = g201 at *
       have bO_0 := bO.c0
       have bO_1 := bO.c1
       have bO_2 := bO.c2
       have bO_3 := bO.c3
       have bO_z := bO.frozen
       have bO_l := bO.lt
       have bR_0 := bR.c0
       have bR_1 := bR.c1
       have bR_2 := bR.c2
       have bR_3 := bR.c3
       have bR_z := bR.frozen
       have bR_l := bR.lt
       have bP_0 := bP.c0
       have bP_1 := bP.c1
       have bP_2 := bP.c2
       have bP_z := bP.frozen
       have bP_l := bP.lt
       go_wp2_with fail
       clear bO_0 bO_1 bO_2 bO_3 bO_z bO_l bR_0 bR_1 bR_2 bR_3 bR_z bR_l bP_0 bP_1 bP_2 bP_z bP_l
       refine (implLeave_nil S.m _ _ _ S.st S.ls S.lw w201 ot.rd os.rd ow.rd (by omega) (by omega) (by omega) hzn).mono ?_; rintro q_ w203 ⟨rfl, b_203⟩
       replace bO := bO.below b_203 bO.lt
       replace bR := bR.below b_203 bR.lt
       replace bP := bP.below b_203 bP.lt
       replace ot := ot.below b_203 (by omega)
       replace os := os.below b_203 (by omega)
       replace ow := ow.below b_203 (by omega)
       replace ho4 := ho4.below b_203 (by omega)
       replace oK := own_below oK b_203
       have z_204 := b_203.size
       replace hB := hB.trans (b_203.mono (by omega))
       clear b_203
       clear f0 f1 f2 hzn
       have bO_0 := bO.c0
       have bO_1 := bO.c1
       have bO_2 := bO.c2
       have bO_3 := bO.c3
       have bO_z := bO.frozen
       have bO_l := bO.lt
       have bR_0 := bR.c0
       have bR_1 := bR.c1
       have bR_2 := bR.c2
       have bR_3 := bR.c3
       have bR_z := bR.frozen
       have bR_l := bR.lt
       have bP_0 := bP.c0
       have bP_1 := bP.c1
       have bP_2 := bP.c2
       have bP_z := bP.frozen
       have bP_l := bP.lt
       go_upto_region 19 with fail
       clear bO_0 bO_1 bO_2 bO_3 bO_z bO_l bR_0 bR_1 bR_2 bR_3 bR_z bR_l bP_0 bP_1 bP_2 bP_z bP_l
       have b_205 := (Below.refl w203.heap.size w203).alloc (Nat.le_refl _) (.cells #[.int .i64 0, .slice none 0 0, .slice none 0 0, .slice none 0 0] 30)
       have bN := Box.new w203 #[.int .i64 0, .slice none 0 0, .slice none 0 0, .slice none 0 0] 30 rfl
       replace bO := bO.below b_205 bO.lt
       replace bR := bR.below b_205 bR.lt
       replace bP := bP.below b_205 bP.lt
       replace ot := ot.below b_205 (by omega)
       replace os := os.below b_205 (by omega)
       replace ow := ow.below b_205 (by omega)
       replace ho4 := ho4.below b_205 (by omega)
       replace oK := own_below oK b_205
       have z_206 := b_205.size
       replace hB := hB.trans (b_205.mono (by omega))
       clear b_205
       generalize w203.alloc _ = w205 at *
       generalize w203.heap.size = g205 at *
       have bO_0 := bO.c0
       have bO_1 := bO.c1
       have bO_2 := bO.c2
       have bO_3 := bO.c3
       have bO_z := bO.frozen
       have bO_l := bO.lt
       have bR_0 := bR.c0
       have bR_1 := bR.c1
       have bR_2 := bR.c2
       have bR_3 := bR.c3
       have bR_z := bR.frozen
       have bR_l := bR.lt
       have bP_0 := bP.c0
       have bP_1 := bP.c1
       have bP_2 := bP.c2
       have bP_z := bP.frozen
       have bP_l := bP.lt
       have bN_0 := bN.c0
       have bN_1 := bN.c1
       have bN_2 := bN.c2
       have bN_3 := bN.c3
       have bN_z := bN.frozen
       have bN_l := bN.lt
       go_wp2_with fail
       clear bO_0 bO_1 bO_2 bO_3 bO_z bO_l bR_0 bR_1 bR_2 bR_3 bR_z bR_l bP_0 bP_1 bP_2 bP_z bP_l bN_0 bN_1 bN_2 bN_3 bN_z bN_l
       go_roundw
       case rel =>
        clear bN
        clear bP
        exact ⟨k + 1, j, S, xs, _, _, _, _, _, _, _, _, _, _, _, by omega, by go_num, HR2, HS2, Lib.hid HJ.out, by omega, hB, by omega, bO, bR, ot, os, ow, by omega, by omega, (fun g hg => hu g hg), oK, ho4⟩
       case measure => simp [intOf]; omega
      ·obtain ⟨i, hi_⟩ : ∃ i, i + 1 = S.st.length := ⟨S.st.length - 1, by omega⟩
       obtain ⟨y, hy⟩ : ∃ y, S.st[i]? = some y := ⟨_, List.getElem?_eq_getElem (show i < S.st.length by omega)⟩
       have HS2 := Lib.hid (FS.left_good HS.out hz)
       have HR2 := Lib.hid (show FS.runs (⟨m, st, ls, lw⟩, []) (ops.take (k + 1)) = (S.left, xs) from (FS.runs_pre HO.out).trans (by rw [HR.out]; exact FS.next_left h3 hz))
       have HY := Lib.hid hy
       have HII := Lib.hid hi_
       have HQ := Lib.hid hSp
       have HT := Lib.hid (Fa.top_at hi_ hy)
       have HKL := Lib.hid (Fa.lv_end HS.out hi_ hy).1
       clear h3 hz hvk hSp HV hy hi_
       have bO_0 := bO.c0
       have bO_1 := bO.c1
       have bO_2 := bO.c2
       have bO_3 := bO.c3
       have bO_z := bO.frozen
       have bO_l := bO.lt
       have bR_0 := bR.c0
       have bR_1 := bR.c1
       have bR_2 := bR.c2
       have bR_3 := bR.c3
       have bR_z := bR.frozen
       have bR_l := bR.lt
       go_upto_region 7 with fail
       clear bO_0 bO_1 bO_2 bO_3 bO_z bO_l bR_0 bR_1 bR_2 bR_3 bR_z bR_l
       have b_201 := (Below.refl wr.heap.size wr).alloc (Nat.le_refl _) (.cells #[.int .i64 3, .int .i64 o.irq, .int .i64 o.prio] 54)
       have bP := Box.new wr #[.int .i64 3, .int .i64 o.irq, .int .i64 o.prio] 54 rfl
       replace bO := bO.below b_201 bO.lt
       replace bR := bR.below b_201 bR.lt
       replace ot := ot.below b_201 (by omega)
       replace os := os.below b_201 (by omega)
       replace ow := ow.below b_201 (by omega)
       replace ho4 := ho4.below b_201 (by omega)
       replace oK := own_below oK b_201
       have z_202 := b_201.size
       replace hB := hB.trans (b_201.mono (by omega))
       clear b_201
       generalize wr.alloc _ = w201 at *
       generalize wr.heap.size = g201 at *
       have bO_0 := bO.c0
       have bO_1 := bO.c1
       have bO_2 := bO.c2
       have bO_3 := bO.c3
       have bO_z := bO.frozen
       have bO_l := bO.lt
       have bR_0 := bR.c0
       have bR_1 := bR.c1
       have bR_2 := bR.c2
       have bR_3 := bR.c3
       have bR_z := bR.frozen
       have bR_l := bR.lt
       have bP_0 := bP.c0
       have bP_1 := bP.c1
       have bP_2 := bP.c2
       have bP_z := bP.frozen
       have bP_l := bP.lt
       go_wp2_with fail
       clear bO_0 bO_1 bO_2 bO_3 bO_z bO_l bR_0 bR_1 bR_2 bR_3 bR_z bR_l bP_0 bP_1 bP_2 bP_z bP_l
       have huC : ∀ g, u8.ownBlock = some g → g < w201.heap.size := fun g hg => by have := huL g hg; omega
       refine (implLeave_in S.m _ _ _ S.st S.ls S.lw w201 ot.rd os.rd ow.rd (by omega) (by omega) (by omega) (by omega) HQ.out HII.out HY.out HKL.out).mono ?_; rintro q_ w203 ⟨v3, v4, v5, rfl, o3, o4, o5, b_203⟩
       replace bO := bO.below b_203 bO.lt
       replace bR := bR.below b_203 bR.lt
       replace bP := bP.below b_203 bP.lt
       replace ot := ot.below b_203 (by omega)
       replace os := os.below b_203 (by omega)
       replace ow := ow.below b_203 (by omega)
       replace ho4 := ho4.below b_203 (by omega)
       replace oK := own_below oK b_203
       have z_204 := b_203.size
       replace hB := hB.trans (b_203.mono (by omega))
       clear b_203
       rw [← HT.out.2.1] at o3
       have e4 := HT.out.2.2
       rw [← e4] at o4 o5
       clear e4
       obtain ⟨B3, m3, e3, rfl, _, _, _⟩ := o3.rd.form
       obtain ⟨B4, m4, e4, rfl, _, _, _⟩ := o4.rd.form
       obtain ⟨B5, m5, e5, rfl, _, _, _⟩ := o5.rd.form
       clear ot os ow f0 f1 f2
       have bO_0 := bO.c0
       have bO_1 := bO.c1
       have bO_2 := bO.c2
       have bO_3 := bO.c3
       have bO_z := bO.frozen
       have bO_l := bO.lt
       have bR_0 := bR.c0
       have bR_1 := bR.c1
       have bR_2 := bR.c2
       have bR_3 := bR.c3
       have bR_z := bR.frozen
       have bR_l := bR.lt
       have bP_0 := bP.c0
       have bP_1 := bP.c1
       have bP_2 := bP.c2
       have bP_z := bP.frozen
       have bP_l := bP.lt
       go_upto_region 19 with fail
       clear bO_0 bO_1 bO_2 bO_3 bO_z bO_l bR_0 bR_1 bR_2 bR_3 bR_z bR_l bP_0 bP_1 bP_2 bP_z bP_l
       have b_205 := (Below.refl w203.heap.size w203).alloc (Nat.le_refl _) (.cells #[.int .i64 S.m, .slice B3 m3 e3, .slice B4 m4 e4, .slice B5 m5 e5] 30)
       have bN := Box.new w203 #[.int .i64 S.m, .slice B3 m3 e3, .slice B4 m4 e4, .slice B5 m5 e5] 30 rfl
       replace bO := bO.below b_205 bO.lt
       replace bR := bR.below b_205 bR.lt
       replace bP := bP.below b_205 bP.lt
       replace ho4 := ho4.below b_205 (by omega)
       replace o3 := o3.below b_205 (by omega)
       replace o4 := o4.below b_205 (by omega)
       replace o5 := o5.below b_205 (by omega)
       replace oK := own_below oK b_205
       have z_206 := b_205.size
       replace hB := hB.trans (b_205.mono (by omega))
       clear b_205
       generalize w203.alloc _ = w205 at *
       generalize w203.heap.size = g205 at *
       have bO_0 := bO.c0
       have bO_1 := bO.c1
       have bO_2 := bO.c2
       have bO_3 := bO.c3
       have bO_z := bO.frozen
       have bO_l := bO.lt
       have bR_0 := bR.c0
       have bR_1 := bR.c1
       have bR_2 := bR.c2
       have bR_3 := bR.c3
       have bR_z := bR.frozen
       have bR_l := bR.lt
       have bP_0 := bP.c0
       have bP_1 := bP.c1
       have bP_2 := bP.c2
       have bP_z := bP.frozen
       have bP_l := bP.lt
       have bN_0 := bN.c0
       have bN_1 := bN.c1
       have bN_2 := bN.c2
       have bN_3 := bN.c3
       have bN_z := bN.frozen
       have bN_l := bN.lt
       go_wp2_with fail
       clear bO_0 bO_1 bO_2 bO_3 bO_z bO_l bR_0 bR_1 bR_2 bR_3 bR_z bR_l bP_0 bP_1 bP_2 bP_z bP_l bN_0 bN_1 bN_2 bN_3 bN_z bN_l
       go_roundw
       case rel =>
        clear bN
        clear bP
        generalize hwz : World.setCell (World.setCell (World.setCell (World.setCell _ _ _) _ _) _ _) _ _ = wz_
        obtain rfl : wz_ = setL w205 (gO) 0 [.int .i64 S.m, .slice B3 m3 e3, .slice B4 m4 e4, .slice B5 m5 e5] := hwz.symm
        clear hwz
        replace bR := bR.other (b := gO) (by omega) 0 [.int .i64 S.m, .slice B3 m3 e3, .slice B4 m4 e4, .slice B5 m5 e5]
        replace ho4 := ho4.away (g := gO) (by omega) 0 [.int .i64 S.m, .slice B3 m3 e3, .slice B4 m4 e4, .slice B5 m5 e5]
        replace o3 := o3.box (g := gO) bO (by decide) 0 [.int .i64 S.m, .slice B3 m3 e3, .slice B4 m4 e4, .slice B5 m5 e5]
        replace o4 := o4.box (g := gO) bO (by decide) 0 [.int .i64 S.m, .slice B3 m3 e3, .slice B4 m4 e4, .slice B5 m5 e5]
        replace o5 := o5.box (g := gO) bO (by decide) 0 [.int .i64 S.m, .slice B3 m3 e3, .slice B4 m4 e4, .slice B5 m5 e5]
        replace oK := own_box oK bO (by decide) 0 [.int .i64 S.m, .slice B3 m3 e3, .slice B4 m4 e4, .slice B5 m5 e5]
        replace hB := setL_below hB [.int .i64 S.m, .slice B3 m3 e3, .slice B4 m4 e4, .slice B5 m5 e5] (gO) 0 (by omega)
        have zs_207 : (setL w205 (gO) 0 [.int .i64 S.m, .slice B3 m3 e3, .slice B4 m4 e4, .slice B5 m5 e5]).heap.size = w205.heap.size := setL_size _ _ _ _
        replace bO := bO.setAll [.int .i64 S.m, .slice B3 m3 e3, .slice B4 m4 e4, .slice B5 m5 e5] rfl
        generalize setL w205 _ 0 _ = w207 at *
        exact ⟨k + 1, j, S.left, xs, _, _, _, _, _, _, _, _, _, _, _, by omega, by go_num, HR2, HS2, Lib.hid HJ.out, by omega, hB, by omega, bO, bR, o3, o4, o5, by omega, by omega, (fun g hg => by have := huC g hg; omega), oK, ho4⟩
       case measure => simp [intOf]; omega
     ·have HE := Lib.hid (show FS.runs (⟨m, st, ls, lw⟩, []) ops = (S, xs) from by rw [← HR.out, List.take_of_length_le (by rw [← H6.out]; omega)])
      have oT := Ow.of_own Nm.cells_len oK rfl HJ.out
      obtain ⟨a9, b9, q1, q2, q3, oT⟩ := oT.narrow hu
      clear oK hu
      obtain ⟨B9, m9, e9, rfl, _, _, _⟩ := oT.rd.form
      have bO_0 := bO.c0
      have bO_1 := bO.c1
      have bO_2 := bO.c2
      have bO_3 := bO.c3
      have bO_z := bO.frozen
      have bO_l := bO.lt
      have bR_0 := bR.c0
      have bR_1 := bR.c1
      have bR_2 := bR.c2
      have bR_3 := bR.c3
      have bR_z := bR.frozen
      have bR_l := bR.lt
      go_wp2_with fail
      clear bO_0 bO_1 bO_2 bO_3 bO_z bO_l bR_0 bR_1 bR_2 bR_3 bR_z bR_l
      generalize hwz : World.setCell (World.setCell (World.setCell (World.setCell _ _ _) _ _) _ _) _ _ = wz_
      obtain rfl : wz_ = setL wr (w.heap.size + 1) 0 [.int .i64 S.m, .slice At nt dt, .slice A0 n0 d0, .slice A1 n1 d1] := hwz.symm
      clear hwz
      replace bO := bO.other (b := w.heap.size + 1) (by omega) 0 [.int .i64 S.m, .slice At nt dt, .slice A0 n0 d0, .slice A1 n1 d1]
      replace ot := ot.box (g := w.heap.size + 1) bR (by decide) 0 [.int .i64 S.m, .slice At nt dt, .slice A0 n0 d0, .slice A1 n1 d1]
      replace os := os.box (g := w.heap.size + 1) bR (by decide) 0 [.int .i64 S.m, .slice At nt dt, .slice A0 n0 d0, .slice A1 n1 d1]
      replace ow := ow.box (g := w.heap.size + 1) bR (by decide) 0 [.int .i64 S.m, .slice At nt dt, .slice A0 n0 d0, .slice A1 n1 d1]
      replace ho4 := ho4.away (g := w.heap.size + 1) (by omega) 0 [.int .i64 S.m, .slice At nt dt, .slice A0 n0 d0, .slice A1 n1 d1]
      replace oT := oT.box (g := w.heap.size + 1) bR (by decide) 0 [.int .i64 S.m, .slice At nt dt, .slice A0 n0 d0, .slice A1 n1 d1]
      replace hB := setL_below hB [.int .i64 S.m, .slice At nt dt, .slice A0 n0 d0, .slice A1 n1 d1] (w.heap.size + 1) 0 (by omega)
      have zs_201 : (setL wr (w.heap.size + 1) 0 [.int .i64 S.m, .slice At nt dt, .slice A0 n0 d0, .slice A1 n1 d1]).heap.size = wr.heap.size := setL_size _ _ _ _
      replace bR := bR.setAll [.int .i64 S.m, .slice At nt dt, .slice A0 n0 d0, .slice A1 n1 d1] rfl
      generalize setL wr _ 0 _ = w201 at *
      have u0_ := bR.c0
      have u1_ := bR.c1
      have u2_ := bR.c2
      have u3_ := bR.c3
      refine bodyPost_ret (by simp only [results, Tryz.results27]; simp [go_sem, u0_, u1_, u2_, u3_]; rfl) rfl ?_
      exact ⟨_, _, _, _, lo', hi', a9, b9, by rw [HF.out.1, HF.out.2.1, HE.out], by rw [HF.out.2.1, HE.out]; exact ot, by rw [HF.out.2.1, HE.out]; exact os, by rw [HF.out.2.1, HE.out]; exact ow, by rw [HF.out.2.2, HE.out]; exact oT, by omega, by omega, by omega, by omega, by omega, hB⟩

end Go.Proofs.YtndfmkbpdoohfaaGreat
