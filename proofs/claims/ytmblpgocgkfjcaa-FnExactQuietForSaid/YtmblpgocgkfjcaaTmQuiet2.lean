/- Firing timers in the program. No condition. -/
import Derived.Test.YtmblpgocgkfjcaaTmQuiet
namespace Go.Proofs.Ytmblpgocgkfjcaa
open Go.RowKit Go.ChangeShapes Go.WideShapes Go.Deep

theorem Upd.trans {E : TypeId} {sz : Nat} {w w1 w2 : World} {b o : Nat} {xs ys zs : List Value} (h : Upd E sz w w1 b o xs ys) (k : Upd E sz w1 w2 b o ys zs) : Upd E sz w w2 b o xs zs := by
  refine ⟨grown_trans h.1 k.1, fun cur hh hs hc => ?_⟩
  obtain ⟨c1, e1, e2, e3, e4⟩ := h.2 cur hh hs hc
  obtain ⟨c2, g1, g2, g3, g4⟩ := k.2 c1 e1 (by omega) e3
  exact ⟨c2, g1, by omega, g3, fun j hj => (g4 j hj).trans (e4 j hj)⟩

def Tm.few (tick : Int) (l : List Tm) : Bool := decide (Tm.count tick l ≤ 200)

set_option maxRecDepth 8000 in
set_option maxHeartbeats 4000000 in
theorem implFire_any (v : Value) (l : List Tm) (x : Int) (w : World) {lo hi : Nat} (h : Rd Tm.cells 4 w lo hi v l) (hh : hi ≤ w.heap.size) (hg : Tm.good l = true) (hx2 : x ≤ 100000) :
    Calls Try.prog 59 #[v, .int .i64 x] w fun r w' => ∃ v' v2, r = .returned (.tuple #[v', v2, .bool (Tm.few x l)]) ∧ (Tm.few x l = true → Rd Tm.cells 4 w' w.heap.size w'.heap.size v' (Tm.final x l)) ∧ Below w.heap.size w w' := by
  have hrd := h
  obtain ⟨A, n, c, rfl, H, hc, hm⟩ := h.form
  have hn8 := Tm.good_len hg
  rw [← H.out] at hn8
  have HG := Lib.hid hg
  have hcb := Tm.count_nonneg hx2 (l := l) (by simp only [Tm.good, Bool.and_eq_true] at hg; exact hg.2)
  have hcb2 : Tm.count x l ≤ 1000000 := by have := H.out; omega
  clear hg
  go_enter Try.func59, Try.ntmps59
  go_wp2_with (at_builtin; refine Tm.app_rd rfl _ _ rfl w.heap.size (.slice (some ⟨w.heap.size, 0, none⟩) 0 0) 0 [] rfl (World.ownsRow_lit _ #[] 0 (Nat.le_refl _) (by decide) rfl) rfl (hrd.below (Below.alloc (Below.refl _ _) (Nat.le_refl _) _) hh) (by omega) (by simp) ?_; intro v2 w2 hown hg2; have ow := Ow.of_own Tm.cells_len hown (l := l) (by simp) (by rw [← H.out]; omega); have b2 : Below w.heap.size w w2 := (((Below.refl _ _).alloc (Nat.le_refl _) _).grown hg2 (by simp) (by intro j hj; simp [Value.ownBlock] at hj; omega)); clear hg2 hown)
  obtain ⟨A2, n2, cap2, rfl, hn2, hc2, hm2⟩ := ow.form
  obtain rfl : n = n2 := H.out.trans hn2.out.symm
  have hf0 := own_empty w2 (base := w.heap.size) 3 1 b2.size
  have hb0 := b2.alloc b2.size (.cells #[] 3)
  have ow0 := ow.below ((Below.refl w2.heap.size w2).alloc (Nat.le_refl _) (.cells #[] 3)) (Nat.le_refl _)
  have hz0 : w2.heap.size ≤ (w2.alloc (.cells #[] 3)).heap.size := by simp
  clear ow b2
  generalize w2.alloc _ = w3 at hf0 hb0 ow0 hz0 ⊢
  generalize w2.heap.size = hi2 at hf0 ow0 hz0 ⊢
  have c1 := nextToFire_any _ l w3 ow0.rd hz0
  go_wp2_with fail
  refine c1.mono ?_; rintro e w4 ⟨rfl, b4⟩
  clear c1
  replace ow0 := ow0.below b4 hz0
  replace hf0 := hf0.kept (World.grownBy.mk b4.os b4.tape b4.output b4.size (fun k hk _ => b4.block k hk) : w3.grownBy w4 none) (by simp [Value.ownBlock])
  replace hb0 := hb0.trans (b4.mono hb0.size)
  replace hz0 : hi2 ≤ w4.heap.size := by have := b4.size; omega
  clear b4
  go_wp2_with fail
  go_loopg [8, 9] (Tm.count x l).toNat (fun gk v8 v9 wr => ∃ (r : List Tm) (j : Nat) (ys : List Int), v9 = .int .i64 (Tm.nextIx r) ∧ Hid (Tm.good r = true) ∧ Hid (Tm.final x l = Tm.final x r) ∧ Tm.count x r ≤ gk ∧ Hid (j + Tm.count x r = Tm.count x l) ∧ j ≤ 200 ∧ Below w.heap.size w wr ∧ hi2 ≤ wr.heap.size ∧ Ow Tm.cells 4 25 wr w.heap.size hi2 (.slice A2 n cap2) r ∧ wr.ownsRow w.heap.size 3 1 v8 j (ys.flatMap Nm.cells))
  case atStart => exact ⟨l, 0, [], rfl, HG, Lib.hid rfl, by omega, Lib.hid (by omega), by omega, hb0, hz0, ow0, hf0⟩
  case round =>
    clear hf0 hb0 ow0 hz0
    obtain ⟨r, j, ys, rfl, HGR, HFI, hcnt, HJ, hj, hb, hb2, ow, hf⟩ := hrel
    have hn3 : Hid (n = r.length) := by
      obtain ⟨_, n3, _, e, h3, _⟩ := ow.form
      injection e with _ e3 _
      subst e3
      exact h3
    rcases Tm.due_cases x r with ⟨hix, hdue⟩ | ⟨i, t, hix, hil, ht, ha, hdue, hstep⟩
    · have HFIN := Lib.hid (HFI.out.trans (Tm.final_stop hdue))
      have HFEW := Lib.hid (show Tm.few x l = true from by unfold Tm.few; rw [← HJ.out, Tm.not_due hdue]; simp; omega)
      rw [hix]
      clear hix hdue
      go_wp2_with fail
      go_ret3
      exact ⟨_, _, by rw [HFEW.out]; rfl, fun _ => by rw [HFIN.out]; exact ow.rd.mono (Nat.le_refl _) hb2, hb⟩
    · rw [hix]
      have hilt : i < n := by have := hn3.out; omega
      have HT := Lib.hid ht
      have HA := Lib.hid ha
      have hok := Tm.good_ok HGR.out ht
      simp only [Tm.ok, Bool.and_eq_true] at hok
      obtain ⟨ht1, ht2⟩ := inB_true hok.1
      obtain ⟨ht3, ht4⟩ := inB_true hok.2.1
      obtain ⟨g, off2, t', rfl, ht', _, _, f0, f1, f2, f3⟩ := Tm.get ow.rd hilt (Below.refl hi2 wr) (Nat.le_refl _)
      obtain rfl := Option.some.inj (HT.out.symm.trans ht'.out)
      clear ht' hok ht ha
      by_cases hle : t.next ≤ x
      · have hdue : Tm.due x r = true := by rw [hdue]; simpa using hle
        have hfs := Tm.final_step hx2 HGR.out hdue
        have hds := Tm.due_step hx2 HGR.out hdue
        rw [hstep] at hfs hds
        have HD := Lib.hid (show Tm.good (r.set i t.fired) = true ∧ Tm.final x l = Tm.final x (r.set i t.fired) ∧ Tm.count x (r.set i t.fired) = Tm.count x r - 1 from ⟨hds.1, HFI.out.trans hfs.1, hds.2⟩)
        have hgk := hfs.2
        obtain ⟨m, rfl⟩ : ∃ m, gk = m + 1 := ⟨gk - 1, by omega⟩
        have hcm : Tm.count x (r.set i t.fired) ≤ m := by rw [HD.out.2.2]; omega
        by_cases hj2 : j = 200
        · subst hj2
          have HFEW := Lib.hid (show Tm.few x l = false from by unfold Tm.few; rw [← HJ.out]; simp; omega)
          clear hfs hds hdue hstep hix hcnt hgk hcm
          go_wp2_with (at_builtin; (refine Nm.app_one rfl _ _ rfl w.heap.size u8 200 _ rfl (hf.alloc _) (g := wr.heap.size) (c := 1) (i : Int) rfl ?hcA (by omega) (by have := hb.size; simp <;> omega) ?_); (rotate_left); (intro v3 w3 hf3 hg3); (have ow3 := (ow.below ((Below.refl hi2 wr).alloc hb2 _) (Nat.le_refl _)).grown_own (hf.alloc _) hg3 (by decide)); (have hb3 : Below w.heap.size w w3 := (hb.alloc hb.size _).grown hg3 (by have := hb.size; simp <;> omega) (fun j hj => (hf.lt j hj).1)); (have z3 : hi2 ≤ w3.heap.size := (by have := hg3.size; simp at this <;> omega)); (clear f0 f1 f2 f3); (obtain ⟨_, _, t3, e, ht3, hg1, hg2, f0, f1, f2, f3⟩ := Tm.get ow3.rd hilt (Below.refl hi2 w3) (Nat.le_refl _)); (injection e with e); (injection e with e1 e2); (subst e1); (subst e2); (obtain rfl := Option.some.inj (HT.out.symm.trans ht3.out)); (have hfz := ow3.frozen (by omega)); (have hgw : g < w3.heap.size := by omega); (obtain ⟨g3, cap3, rfl, _, _⟩ := hf3.form (by omega)); (clear ow hf hb hb2 hg3 ht3))
          go_ret3
          exact ⟨_, ⟨_, by rw [HFEW.out]; rfl⟩, (fun q => by rw [HFEW.out] at q; cases q), hb3⟩
          case hcA =>
            intro j u hu
            simpa [Nm.cells] using hu
        · have hjm : Hid ((j + 1 : Nat) + Tm.count x (r.set i t.fired) = Tm.count x l) := Lib.hid (by rw [HD.out.2.2, ← HJ.out]; omega)
          have hj200 : j < 200 := by omega
          clear hfs hds hdue hstep hix hcnt hgk hj2 hj
          by_cases he : t.every = 0
          · have HS := Lib.hid (show t.fired = ⟨false, 0, t.every, t.irq⟩ from by unfold Tm.fired; rw [if_pos (.inl he)])
            go_wp2_with (at_builtin; (refine Nm.app_one rfl _ _ rfl w.heap.size u8 j _ rfl (hf.alloc _) (g := wr.heap.size) (c := 1) (i : Int) rfl ?hcB (by omega) (by have := hb.size; simp <;> omega) ?_); (rotate_left); (intro v3 w3 hf3 hg3); (have ow3 := (ow.below ((Below.refl hi2 wr).alloc hb2 _) (Nat.le_refl _)).grown_own (hf.alloc _) hg3 (by decide)); (have hb3 : Below w.heap.size w w3 := (hb.alloc hb.size _).grown hg3 (by have := hb.size; simp <;> omega) (fun j hj => (hf.lt j hj).1)); (have z3 : hi2 ≤ w3.heap.size := (by have := hg3.size; simp at this <;> omega)); (clear f0 f1 f2 f3); (obtain ⟨_, _, t3, e, ht3, hg1, hg2, f0, f1, f2, f3⟩ := Tm.get ow3.rd hilt (Below.refl hi2 w3) (Nat.le_refl _)); (injection e with e); (injection e with e1 e2); (subst e1); (subst e2); (obtain rfl := Option.some.inj (HT.out.symm.trans ht3.out)); (have hfz := ow3.frozen (by omega)); (have hgw : g < w3.heap.size := by omega); (obtain ⟨g3, cap3, rfl, _, _⟩ := hf3.form (by omega)); (clear ow hf hb hb2 hg3 ht3))
            case hcB =>
              intro j u hu
              simpa [Nm.cells] using hu
            go_region
            go_wp2_with fail
            generalize hw : World.drew _ = w5
            have UP : Upd 25 4 w3 w5 g (off2 + i * 4) t.cells t.fired.cells := by
              rw [← hw, HS.out]
              exact Upd.drew (Upd.trans (Upd.of_setL 1 (ys := [.int .i64 t.next]) (ys' := [.bool t.armed, .int .i64 t.next, .int .i64 t.every, .int .i64 t.irq]) rfl rfl (by simp)) (Upd.of_setL 0 (ys := [.bool false, .int .i64 0]) rfl rfl (by simp)))
            clear hw
            have hb5 : Below w.heap.size w w5 := hb3.grown UP.1 hb3.size (fun j hj => by injection hj with hj; omega)
            have hz5 : hi2 ≤ w5.heap.size := Nat.le_trans z3 UP.1.size
            have ow5 := ow3.upd Tm.cells_len (by omega) HT.out UP
            have hf5 := own_keep hf3 ow3 (by omega) UP.1 (by decide)
            have c2 := nextToFire_any _ (r.set i t.fired) w5 ow5.rd hz5
            refine c2.mono ?_; rintro e w6 ⟨rfl, b6⟩
            go_wp2_with fail
            go_roundg m
            case rel =>
              refine ⟨r.set i t.fired, j + 1, ys ++ [(i : Int)], rfl, Lib.hid HD.out.1, Lib.hid HD.out.2.1, hcm, hjm, by omega, hb5.trans (b6.mono hb5.size), Nat.le_trans hz5 b6.size, ow5.below b6 hz5, ?_⟩
              rw [List.flatMap_append]
              exact hf5.kept (World.grownBy.mk b6.os b6.tape b6.output b6.size (fun k hk _ => b6.block k hk) : w5.grownBy w6 none) (by simp [Value.ownBlock])
            case measure => exact Nat.lt_succ_self _
          · by_cases hm2 : 100000 < t.next + t.every
            · have HS := Lib.hid (show t.fired = ⟨false, 0, t.every, t.irq⟩ from by unfold Tm.fired; rw [if_pos (.inr hm2)])
              go_wp2_with (at_builtin; (refine Nm.app_one rfl _ _ rfl w.heap.size u8 j _ rfl (hf.alloc _) (g := wr.heap.size) (c := 1) (i : Int) rfl ?hcC (by omega) (by have := hb.size; simp <;> omega) ?_); (rotate_left); (intro v3 w3 hf3 hg3); (have ow3 := (ow.below ((Below.refl hi2 wr).alloc hb2 _) (Nat.le_refl _)).grown_own (hf.alloc _) hg3 (by decide)); (have hb3 : Below w.heap.size w w3 := (hb.alloc hb.size _).grown hg3 (by have := hb.size; simp <;> omega) (fun j hj => (hf.lt j hj).1)); (have z3 : hi2 ≤ w3.heap.size := (by have := hg3.size; simp at this <;> omega)); (clear f0 f1 f2 f3); (obtain ⟨_, _, t3, e, ht3, hg1, hg2, f0, f1, f2, f3⟩ := Tm.get ow3.rd hilt (Below.refl hi2 w3) (Nat.le_refl _)); (injection e with e); (injection e with e1 e2); (subst e1); (subst e2); (obtain rfl := Option.some.inj (HT.out.symm.trans ht3.out)); (have hfz := ow3.frozen (by omega)); (have hgw : g < w3.heap.size := by omega); (obtain ⟨g3, cap3, rfl, _, _⟩ := hf3.form (by omega)); (clear ow hf hb hb2 hg3 ht3))
              case hcC =>
                intro j u hu
                simpa [Nm.cells] using hu
              go_region
              go_wp2_with fail
              generalize hw : World.drew _ = w5
              have UP : Upd 25 4 w3 w5 g (off2 + i * 4) t.cells t.fired.cells := by
                rw [← hw, HS.out]
                exact Upd.drew (Upd.trans (Upd.of_setL 1 (ys := [.int .i64 (t.next + t.every)]) (ys' := [.bool t.armed, .int .i64 (t.next + t.every), .int .i64 t.every, .int .i64 t.irq]) rfl rfl (by simp)) (Upd.of_setL 0 (ys := [.bool false, .int .i64 0]) rfl rfl (by simp)))
              clear hw
              have hb5 : Below w.heap.size w w5 := hb3.grown UP.1 hb3.size (fun j hj => by injection hj with hj; omega)
              have hz5 : hi2 ≤ w5.heap.size := Nat.le_trans z3 UP.1.size
              have ow5 := ow3.upd Tm.cells_len (by omega) HT.out UP
              have hf5 := own_keep hf3 ow3 (by omega) UP.1 (by decide)
              have c2 := nextToFire_any _ (r.set i t.fired) w5 ow5.rd hz5
              refine c2.mono ?_; rintro e w6 ⟨rfl, b6⟩
              go_wp2_with fail
              go_roundg m
              case rel =>
                refine ⟨r.set i t.fired, j + 1, ys ++ [(i : Int)], rfl, Lib.hid HD.out.1, Lib.hid HD.out.2.1, hcm, hjm, by omega, hb5.trans (b6.mono hb5.size), Nat.le_trans hz5 b6.size, ow5.below b6 hz5, ?_⟩
                rw [List.flatMap_append]
                exact hf5.kept (World.grownBy.mk b6.os b6.tape b6.output b6.size (fun k hk _ => b6.block k hk) : w5.grownBy w6 none) (by simp [Value.ownBlock])
              case measure => exact Nat.lt_succ_self _
            · have HS := Lib.hid (show t.fired = ⟨true, t.next + t.every, t.every, t.irq⟩ from by unfold Tm.fired; rw [if_neg (by omega), HA.out])
              go_wp2_with (at_builtin; (refine Nm.app_one rfl _ _ rfl w.heap.size u8 j _ rfl (hf.alloc _) (g := wr.heap.size) (c := 1) (i : Int) rfl ?hcD (by omega) (by have := hb.size; simp <;> omega) ?_); (rotate_left); (intro v3 w3 hf3 hg3); (have ow3 := (ow.below ((Below.refl hi2 wr).alloc hb2 _) (Nat.le_refl _)).grown_own (hf.alloc _) hg3 (by decide)); (have hb3 : Below w.heap.size w w3 := (hb.alloc hb.size _).grown hg3 (by have := hb.size; simp <;> omega) (fun j hj => (hf.lt j hj).1)); (have z3 : hi2 ≤ w3.heap.size := (by have := hg3.size; simp at this <;> omega)); (clear f0 f1 f2 f3); (obtain ⟨_, _, t3, e, ht3, hg1, hg2, f0, f1, f2, f3⟩ := Tm.get ow3.rd hilt (Below.refl hi2 w3) (Nat.le_refl _)); (injection e with e); (injection e with e1 e2); (subst e1); (subst e2); (obtain rfl := Option.some.inj (HT.out.symm.trans ht3.out)); (have hfz := ow3.frozen (by omega)); (have hgw : g < w3.heap.size := by omega); (obtain ⟨g3, cap3, rfl, _, _⟩ := hf3.form (by omega)); (clear ow hf hb hb2 hg3 ht3))
              case hcD =>
                intro j u hu
                simpa [Nm.cells] using hu
              go_region
              go_wp2_with fail
              generalize hw : World.drew _ = w5
              have UP : Upd 25 4 w3 w5 g (off2 + i * 4) t.cells t.fired.cells := by
                rw [← hw, HS.out]
                exact Upd.drew (Upd.of_setL 1 (ys := [.int .i64 (t.next + t.every)]) rfl (by simp [Tm.cells, HA.out]) (by simp))
              clear hw
              have hb5 : Below w.heap.size w w5 := hb3.grown UP.1 hb3.size (fun j hj => by injection hj with hj; omega)
              have hz5 : hi2 ≤ w5.heap.size := Nat.le_trans z3 UP.1.size
              have ow5 := ow3.upd Tm.cells_len (by omega) HT.out UP
              have hf5 := own_keep hf3 ow3 (by omega) UP.1 (by decide)
              have c2 := nextToFire_any _ (r.set i t.fired) w5 ow5.rd hz5
              refine c2.mono ?_; rintro e w6 ⟨rfl, b6⟩
              go_wp2_with fail
              go_roundg m
              case rel =>
                refine ⟨r.set i t.fired, j + 1, ys ++ [(i : Int)], rfl, Lib.hid HD.out.1, Lib.hid HD.out.2.1, hcm, hjm, by omega, hb5.trans (b6.mono hb5.size), Nat.le_trans hz5 b6.size, ow5.below b6 hz5, ?_⟩
                rw [List.flatMap_append]
                exact hf5.kept (World.grownBy.mk b6.os b6.tape b6.output b6.size (fun k hk _ => b6.block k hk) : w5.grownBy w6 none) (by simp [Value.ownBlock])
              case measure => exact Nat.lt_succ_self _
      · have HFIN := Lib.hid (HFI.out.trans (Tm.final_stop (by rw [hdue]; simpa using hle)))
        have HFEW := Lib.hid (show Tm.few x l = true from by unfold Tm.few; rw [← HJ.out, Tm.not_due (by rw [hdue]; simpa using hle)]; simp; omega)
        clear hix hdue hstep
        go_wp2_with fail
        go_ret3
        exact ⟨_, ⟨_, by rw [HFEW.out]; rfl⟩, fun _ => by rw [HFIN.out]; exact ow.rd.mono (Nat.le_refl _) hb2, hb⟩

end Go.Proofs.Ytmblpgocgkfjcaa
