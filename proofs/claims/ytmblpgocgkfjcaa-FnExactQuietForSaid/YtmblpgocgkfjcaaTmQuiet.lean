/- Firing timers and the quiet time behind a tick, in the program and in the reference. No condition. -/
import Derived.Test.YtmblpgocgkfjcaaTmFire
import Derived.Test.YtmblpgocgkfjcaaTmArm
namespace Go.Proofs.Ytmblpgocgkfjcaa
open Go.RowKit Go.ChangeShapes Go.WideShapes Go.Deep

theorem Tm.count_take {tick : Int} {l : List Tm} {k : Nat} {t : Tm} (h : l[k]? = some t) : Tm.count tick (l.take (k + 1)) = Tm.count tick (l.take k) + t.fires tick := by
  simp [Tm.count, List.take_add_one, h]

theorem l11Count_any (v : Value) (l : List Tm) (x : Int) (w : World) {lo hi : Nat} (h : Rd Tm.cells 4 w lo hi v l) (hh : hi ≤ w.heap.size) (hg : Tm.good l = true) (hx1 : -1 ≤ x) (hx2 : x ≤ 100000) :
    Calls Try.prog 57 #[v, .int .i64 x] w fun r w' => r = .returned (.int .i64 (Tm.count x l)) ∧ Below w.heap.size w w' := by
  obtain ⟨A, n, c, rfl, H, hc, hm⟩ := h.form
  have hn8 := Tm.good_len hg
  rw [← H.out] at hn8
  have HG := Lib.hid hg
  clear hg
  have c3 := fun t W hk => l11Fires_any t x W hk hx1 hx2
  go_enter Try.func57, Try.ntmps57
  go_wp2_with fail
  go_loopw [5, 6] (fun q i wr => ∃ k : Nat, k ≤ n ∧ i = .int .i64 k ∧ q = .int .i64 (Tm.count x (l.take k)) ∧ Below w.heap.size w wr) (fun _ i _ => n - (intOf i).toNat)
  case atStart => exact ⟨0, Nat.zero_le _, rfl, rfl, Below.refl _ _⟩
  case round =>
    obtain ⟨k, hk, rfl, rfl, hb⟩ := hrel
    by_cases hlt : k < n
    · obtain ⟨b, off, t, rfl, ht, _, hbl, f0, f1, f2, f3⟩ := Tm.get h hlt hb hh
      have hok := Tm.good_ok HG.out ht.out
      have HC := Lib.hid (Tm.count_take (tick := x) ht.out)
      have hfb := Tm.fires_bd t x hok hx2
      have hcb := Tm.count_nonneg hx2 (l := l.take k) (by
        have := HG.out
        simp only [Tm.good, Bool.and_eq_true, List.all_eq_true] at this
        rw [List.all_eq_true]
        exact fun z hz => this.2 z (List.mem_of_mem_take hz))
      have hkl : (l.take k).length ≤ 8 := by rw [List.length_take]; omega
      have c3 := fun W => c3 t W hok
      generalize t.fires x = fr at hfb HC c3
      generalize Tm.count x (l.take k) = q at hcb HC ⊢
      obtain ⟨hf1, hf2⟩ := hfb
      obtain ⟨hc1, hc2⟩ := hcb
      have hc3 : q ≤ 1000000 := by omega
      unfold Tm.val at c3
      clear hok
      go_wp2_with (go_at_call 43; refine (c3 _).mono ?_; rintro e w1 ⟨rfl, b1⟩)
      go_roundw
      case rel => exact ⟨k + 1, by omega, by go_num, by rw [HC.out], hb.trans (b1.mono hb.size)⟩
      case measure => simp [intOf]; omega
    · go_wp2_with fail
      go_ret
      exact ⟨ret_int (by rw [List.take_of_length_le (by rw [← H.out]; omega)]), hb⟩

set_option maxHeartbeats 2000000 in
theorem l11Fire_any (v : Value) (l : List Tm) (x : Int) (w : World) {lo hi : Nat} (h : Rd Tm.cells 4 w lo hi v l) (hh : hi ≤ w.heap.size) (hg : Tm.good l = true) (hx2 : x ≤ 100000) :
    Calls Try.prog 58 #[v, .int .i64 x] w fun r w' => ∃ v' v2, r = .returned (.tuple #[v', v2]) ∧ Rd Tm.cells 4 w' w.heap.size w'.heap.size v' (Tm.final x l) ∧ Below w.heap.size w w' := by
  have hrd := h
  obtain ⟨A, n, c, rfl, H, hc, hm⟩ := h.form
  have hn8 := Tm.good_len hg
  rw [← H.out] at hn8
  have HG := Lib.hid hg
  have hcb := Tm.count_nonneg hx2 (l := l) (by simp only [Tm.good, Bool.and_eq_true] at hg; exact hg.2)
  have hcb2 : Tm.count x l ≤ 1000000 := by have := H.out; omega
  clear hg
  go_enter Try.func58, Try.ntmps58
  go_wp2_with (at_builtin; refine Tm.app_rd rfl _ _ rfl w.heap.size (.slice (some ⟨w.heap.size, 0, none⟩) 0 0) 0 [] rfl (World.ownsRow_lit _ #[] 0 (Nat.le_refl _) (by decide) rfl) rfl (hrd.below (Below.alloc (Below.refl _ _) (Nat.le_refl _) _) hh) (by omega) (by simp) ?_; intro v2 w2 hown hg2; have ow := Ow.of_own Tm.cells_len hown (l := l) (by simp) (by rw [← H.out]; omega); have b2 : Below w.heap.size w w2 := (((Below.refl _ _).alloc (Nat.le_refl _) _).grown hg2 (by simp) (by intro j hj; simp [Value.ownBlock] at hj; omega)); clear hg2 hown)
  obtain ⟨A2, n2, cap2, rfl, hn2, hc2, hm2⟩ := ow.form
  obtain rfl : n = n2 := H.out.trans hn2.out.symm
  have hf0 := own_empty w2 (base := w.heap.size) 3 1 b2.size
  have hb0 := b2.alloc b2.size (.cells #[] 3)
  have ow0 := ow.below ((Below.refl w2.heap.size w2).alloc (Nat.le_refl _) (.cells #[] 3)) (Nat.le_refl _)
  have hz0 : w2.heap.size ≤ (w2.alloc (.cells #[] 3)).heap.size := by simp
  clear ow b2
  generalize w2.alloc _ = w3 at hf0 hb0 ow0 hz0 ⊢
  generalize w2.heap.size = hi2 at hf0 ow0 hz0 ⊢
  go_loopg [7] (Tm.count x l).toNat (fun gk v7 wr => ∃ (r : List Tm) (j : Nat) (ys : List Int), Tm.good r = true ∧ Tm.final x l = Tm.final x r ∧ Tm.count x r ≤ gk ∧ j + gk ≤ 1000000 ∧ Below w.heap.size w wr ∧ hi2 ≤ wr.heap.size ∧ Ow Tm.cells 4 25 wr w.heap.size hi2 (.slice A2 n cap2) r ∧ wr.ownsRow w.heap.size 3 1 v7 j (ys.flatMap Nm.cells))
  case atStart => exact ⟨l, 0, [], HG.out, rfl, by omega, by omega, hb0, hz0, ow0, hf0⟩
  case round =>
    clear hf0 hb0 ow0 hz0
    obtain ⟨r, j, ys, hgr, hfin, hcnt, hj, hb, hb2, ow, hf⟩ := hrel
    have c1 := l11Next_any _ r wr ow.rd hb2
    have hn3 : Hid (n = r.length) := by
      obtain ⟨_, n3, _, e, h3, _⟩ := ow.form
      injection e with _ e3 _
      subst e3
      exact h3
    have HGR := Lib.hid hgr
    rcases Tm.due_cases x r with ⟨hix, hdue⟩ | ⟨i, t, hix, hil, ht, ha, hdue, hstep⟩
    · have HFIN := Lib.hid (hfin.trans (Tm.final_stop hdue))
      rw [hix] at c1
      clear hix hdue hfin hgr
      go_wp2_with fail
      refine c1.mono ?_; rintro e w4 ⟨rfl, b4⟩
      go_wp2_with fail
      go_ret2
      exact ⟨_, _, rfl, by rw [HFIN.out]; exact (ow.below b4 hb2).rd.mono (Nat.le_refl _) (by have := b4.size; omega), hb.trans (b4.mono hb.size)⟩
    · rw [hix] at c1
      have hilt : i < n := by have := hn3.out; omega
      have HT := Lib.hid ht
      have hok := Tm.good_ok hgr ht
      simp only [Tm.ok, Bool.and_eq_true] at hok
      obtain ⟨ht1, ht2⟩ := inB_true hok.1
      obtain ⟨ht3, ht4⟩ := inB_true hok.2.1
      by_cases hle : t.next ≤ x
      · have hdue : Tm.due x r = true := by rw [hdue]; simpa using hle
        have hfs := Tm.final_step hx2 hgr hdue
        have hds := Tm.due_step hx2 hgr hdue
        rw [hstep] at hfs hds
        have HD := Lib.hid (show Tm.good (r.set i t.fired) = true ∧ Tm.final x l = Tm.final x (r.set i t.fired) ∧ Tm.count x (r.set i t.fired) = Tm.count x r - 1 from ⟨hds.1, hfin.trans hfs.1, hds.2⟩)
        have hgk := hfs.2
        obtain ⟨m, rfl⟩ : ∃ m, gk = m + 1 := ⟨gk - 1, by omega⟩
        have hcm : Tm.count x (r.set i t.fired) ≤ m := by rw [HD.out.2.2]; omega
        have hjm : j + 1 + m ≤ 1000000 := by omega
        clear hfin hfs hds hdue hstep hix hgr ht hok hcnt hj hgk
        go_wp2_with fail
        refine c1.mono ?_; rintro e w4 ⟨rfl, b4⟩
        replace ow := ow.below b4 hb2
        replace hf := hf.kept (World.grownBy.mk b4.os b4.tape b4.output b4.size (fun k hk _ => b4.block k hk) : wr.grownBy w4 none) (by cases hv : u7.ownBlock <;> simp)
        replace hb := hb.trans (b4.mono hb.size)
        replace hb2 : hi2 ≤ w4.heap.size := by have := b4.size; omega
        clear b4 c1 HGR
        obtain ⟨g, off2, t', rfl, ht', _, _, f0, f1, f2, f3⟩ := Tm.get ow.rd hilt (Below.refl hi2 w4) (Nat.le_refl _)
        obtain rfl := Option.some.inj (HT.out.symm.trans ht'.out)
        clear ht'
        by_cases he : t.every = 0
        · have HS := Lib.hid (show t.fired = ⟨false, 0, 0, t.irq⟩ from by unfold Tm.fired; rw [if_pos (.inl he), he])
          go_wp2_with (at_builtin; (refine Nm.app_one rfl _ _ rfl w.heap.size u7 j _ rfl (hf.alloc _) (g := w4.heap.size) (c := 1) (i : Int) rfl ?hc0 (by omega) (by have := hb.size; simp <;> omega) ?_); (rotate_left); (intro v3 w3 hf3 hg3); (have ow3 := (ow.below ((Below.refl hi2 w4).alloc hb2 _) (Nat.le_refl _)).grown_own (hf.alloc _) hg3 (by decide)); (have hb3 : Below w.heap.size w w3 := (hb.alloc hb.size _).grown hg3 (by have := hb.size; simp <;> omega) (fun j hj => (hf.lt j hj).1)); (have z3 : hi2 ≤ w3.heap.size := (by have := hg3.size; simp at this <;> omega)); (obtain ⟨_, _, t3, e, ht3, hg1, hg2, f0, f1, f2, f3⟩ := Tm.get ow3.rd hilt (Below.refl hi2 w3) (Nat.le_refl _)); (injection e with e); (injection e with e1 e2); (subst e1); (subst e2); (obtain rfl := Option.some.inj (HT.out.symm.trans ht3.out)); (have hfz := ow3.frozen (by omega)); (have hgw : g < w3.heap.size := by omega); (clear ow hf hb hb2 hg3 ht3))
          go_roundg m
          case rel =>
            generalize hw : World.setCell _ _ _ = w5
            obtain rfl : w5 = setL w3 g (off2 + i * 4) [.bool false, .int .i64 0, .int .i64 0, .int .i64 t.irq] := hw.symm
            clear hw
            have s5 := setL_size [.bool false, .int .i64 0, .int .i64 0, .int .i64 t.irq] w3 g (off2 + i * 4)
            have gr := setL_grown [.bool false, .int .i64 0, .int .i64 0, .int .i64 t.irq] w3 g (off2 + i * 4)
            refine ⟨r.set i t.fired, j + 1, ys ++ [(i : Int)], HD.out.1, HD.out.2.1, hcm, hjm, (setL_below hb3 _ g _ hg1).alloc (by rw [s5]; exact hb3.size) _, by rw [World.size_alloc, s5]; omega, ?_, ?_⟩
            · refine (ow3.upd Tm.cells_len (by omega) HT.out ?_).below ((Below.refl hi2 _).alloc (by rw [s5]; exact z3) _) (Nat.le_refl _)
              exact Upd.of_setL 0 (xs := t.cells) rfl (by rw [HS.out]; simp [Tm.cells]) (by simp)
            · rw [List.flatMap_append]
              refine (own_keep hf3 ow3 (by omega) gr (by decide)).alloc _
          case measure => exact Nat.lt_succ_self _
          case hc0 =>
            intro j u hu
            simpa [Nm.cells] using hu
        · by_cases hm2 : 100000 < t.next + t.every
          · have HS := Lib.hid (show t.fired = ⟨false, 0, t.every, t.irq⟩ from by unfold Tm.fired; rw [if_pos (.inr hm2)])
            go_wp2_with (at_builtin; (refine Nm.app_one rfl _ _ rfl w.heap.size u7 j _ rfl (hf.alloc _) (g := w4.heap.size) (c := 1) (i : Int) rfl ?hc1 (by omega) (by have := hb.size; simp <;> omega) ?_); (rotate_left); (intro v3 w3 hf3 hg3); (have ow3 := (ow.below ((Below.refl hi2 w4).alloc hb2 _) (Nat.le_refl _)).grown_own (hf.alloc _) hg3 (by decide)); (have hb3 : Below w.heap.size w w3 := (hb.alloc hb.size _).grown hg3 (by have := hb.size; simp <;> omega) (fun j hj => (hf.lt j hj).1)); (have z3 : hi2 ≤ w3.heap.size := (by have := hg3.size; simp at this <;> omega)); (obtain ⟨_, _, t3, e, ht3, hg1, hg2, f0, f1, f2, f3⟩ := Tm.get ow3.rd hilt (Below.refl hi2 w3) (Nat.le_refl _)); (injection e with e); (injection e with e1 e2); (subst e1); (subst e2); (obtain rfl := Option.some.inj (HT.out.symm.trans ht3.out)); (have hfz := ow3.frozen (by omega)); (have hgw : g < w3.heap.size := by omega); (clear ow hf hb hb2 hg3 ht3))
            go_roundg m
            case rel =>
              generalize hw : World.setCell _ _ _ = w5
              obtain rfl : w5 = setL w3 g (off2 + i * 4) [.bool false, .int .i64 0, .int .i64 t.every, .int .i64 t.irq] := hw.symm
              clear hw
              have s5 := setL_size [.bool false, .int .i64 0, .int .i64 t.every, .int .i64 t.irq] w3 g (off2 + i * 4)
              have gr := setL_grown [.bool false, .int .i64 0, .int .i64 t.every, .int .i64 t.irq] w3 g (off2 + i * 4)
              refine ⟨r.set i t.fired, j + 1, ys ++ [(i : Int)], HD.out.1, HD.out.2.1, hcm, hjm, (setL_below hb3 _ g _ hg1).alloc (by rw [s5]; exact hb3.size) _, by rw [World.size_alloc, s5]; omega, ?_, ?_⟩
              · refine (ow3.upd Tm.cells_len (by omega) HT.out ?_).below ((Below.refl hi2 _).alloc (by rw [s5]; exact z3) _) (Nat.le_refl _)
                exact Upd.of_setL 0 (xs := t.cells) rfl (by rw [HS.out]; simp [Tm.cells]) (by simp)
              · rw [List.flatMap_append]
                refine (own_keep hf3 ow3 (by omega) gr (by decide)).alloc _
            case measure => exact Nat.lt_succ_self _
            case hc1 =>
              intro j u hu
              simpa [Nm.cells] using hu
          · have HS := Lib.hid (show t.fired = ⟨true, t.next + t.every, t.every, t.irq⟩ from by unfold Tm.fired; rw [if_neg (by omega), ha])
            go_wp2_with (at_builtin; (refine Nm.app_one rfl _ _ rfl w.heap.size u7 j _ rfl (hf.alloc _) (g := w4.heap.size) (c := 1) (i : Int) rfl ?hc2 (by omega) (by have := hb.size; simp <;> omega) ?_); (rotate_left); (intro v3 w3 hf3 hg3); (have ow3 := (ow.below ((Below.refl hi2 w4).alloc hb2 _) (Nat.le_refl _)).grown_own (hf.alloc _) hg3 (by decide)); (have hb3 : Below w.heap.size w w3 := (hb.alloc hb.size _).grown hg3 (by have := hb.size; simp <;> omega) (fun j hj => (hf.lt j hj).1)); (have z3 : hi2 ≤ w3.heap.size := (by have := hg3.size; simp at this <;> omega)); (obtain ⟨_, _, t3, e, ht3, hg1, hg2, f0, f1, f2, f3⟩ := Tm.get ow3.rd hilt (Below.refl hi2 w3) (Nat.le_refl _)); (injection e with e); (injection e with e1 e2); (subst e1); (subst e2); (obtain rfl := Option.some.inj (HT.out.symm.trans ht3.out)); (have hfz := ow3.frozen (by omega)); (have hgw : g < w3.heap.size := by omega); (clear ow hf hb hb2 hg3 ht3); (rw [ha] at f0))
            go_roundg m
            case rel =>
              generalize hw : World.setCell _ _ _ = w5
              obtain rfl : w5 = setL w3 g (off2 + i * 4) [.bool true, .int .i64 (t.next + t.every), .int .i64 t.every, .int .i64 t.irq] := hw.symm
              clear hw
              have s5 := setL_size [.bool true, .int .i64 (t.next + t.every), .int .i64 t.every, .int .i64 t.irq] w3 g (off2 + i * 4)
              have gr := setL_grown [.bool true, .int .i64 (t.next + t.every), .int .i64 t.every, .int .i64 t.irq] w3 g (off2 + i * 4)
              refine ⟨r.set i t.fired, j + 1, ys ++ [(i : Int)], HD.out.1, HD.out.2.1, hcm, hjm, (setL_below hb3 _ g _ hg1).alloc (by rw [s5]; exact hb3.size) _, by rw [World.size_alloc, s5]; omega, ?_, ?_⟩
              · refine (ow3.upd Tm.cells_len (by omega) HT.out ?_).below ((Below.refl hi2 _).alloc (by rw [s5]; exact z3) _) (Nat.le_refl _)
                exact Upd.of_setL 0 (xs := t.cells) rfl (by rw [HS.out]; simp [Tm.cells]) (by simp)
              · rw [List.flatMap_append]
                refine (own_keep hf3 ow3 (by omega) gr (by decide)).alloc _
            case measure => exact Nat.lt_succ_self _
            case hc2 =>
              intro j u hu
              simpa [Nm.cells] using hu
      · have HFIN := Lib.hid (hfin.trans (Tm.final_stop (by rw [hdue]; simpa using hle)))
        clear hix hdue hfin hgr hstep ht hok
        go_wp2_with fail
        refine c1.mono ?_; rintro e w4 ⟨rfl, b4⟩
        replace ow := ow.below b4 hb2
        obtain ⟨g, off2, t', rfl, ht', hgb, hgl, f0, f1, f2, f3⟩ := Tm.get ow.rd hilt (Below.refl hi2 w4) (Nat.le_refl _)
        obtain rfl := Option.some.inj (HT.out.symm.trans ht'.out)
        go_wp2_with fail
        go_ret2
        refine ⟨_, ⟨_, rfl⟩, ?_, hb.trans (b4.mono hb.size)⟩
        rw [HFIN.out]
        exact ow.rd.mono (Nat.le_refl _) (by have := b4.size; omega)

end Go.Proofs.Ytmblpgocgkfjcaa
