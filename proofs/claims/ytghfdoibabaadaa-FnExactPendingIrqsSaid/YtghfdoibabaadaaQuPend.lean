/- All pending interrupts in order, in the program and in the reference. Condition of the inner functions: valid parts. -/
import Derived.Test.YtghfdoibabaadaaQuPub
import Derived.Test.YtghfdoibabaadaaQuAll
import Derived.Test.YtghfdoibabaadaaSortW
namespace Go.Proofs.Ytghfdoibabaadaa
open Go.RowKit Go.ChangeShapes Go.WideShapes Go.Deep

theorem map_take_succ {l : List Wt} {k : Nat} {x : Wt} (h : l[k]? = some x) : (l.take (k + 1)).map Wt.irq = (l.take k).map Wt.irq ++ [x.irq] := by rw [List.take_add_one, h, List.map_append]; rfl

set_option maxHeartbeats 8000000 in
set_option maxRecDepth 8000 in
theorem specPend_in (vs vw : Value) (ls : List Sl) (lw : List Wt) (w : World) {lo hi lo2 hi2 : Nat} (h : Rd Sl.cells 3 w lo hi vs ls) (h2 : Rd Wt.cells 2 w lo2 hi2 vw lw) (hh : hi ≤ w.heap.size) (hh2 : hi2 ≤ w.heap.size) (hp : Qu.parts ls lw = true) :
    Calls Try.prog 74 #[.agg #[vs, vw]] w fun e w' => ∃ v', e = .returned v' ∧ Ow Nm.cells 1 3 w' w.heap.size w'.heap.size v' ((Qu.all ls lw).map Wt.irq) ∧ Below w.heap.size w w' := by
  have b0 : Below w.heap.size w (w.alloc (.cells #[vs, vw] 31)) := (Below.refl w.heap.size w).alloc (Nat.le_refl _) _
  have z0 : (w.alloc (.cells #[vs, vw] 31)).heap.size = w.heap.size + 1 := by simp
  have bq := Box.new w #[vs, vw] 31 rfl
  have hs := h.below b0 hh
  have hw := h2.below b0 hh2
  have hv := h.form
  have hv2 := h2.form
  clear h h2
  generalize hwA : w.alloc (.cells #[vs, vw] 31) = wA at *
  obtain ⟨A0, n0, d0, rfl, H0, hd0, hm0⟩ := hv
  obtain ⟨A1, n1, d1, rfl, H1, hd1, hm1⟩ := hv2
  have hl1 := Sl.good_len (Qu.parts_get hp).1
  have hl2 := Qu.parts_len hp
  have hn0 : n0 ≤ 4 := by rw [H0.out]; omega
  have hn1 : n1 ≤ 8 := by rw [H1.out]; exact hl2
  clear hp hl1 hl2
  have o4 := own_empty_at wA (base := w.heap.size) (g := w.heap.size + 1) 69 2 z0.symm (by omega)
  have b4 := (Below.refl wA.heap.size wA).alloc (Nat.le_refl _) (.cells #[] 69)
  have hw4 := hw.below b4 (by omega)
  have x0 := (bq.below b4 bq.lt).cell (j := 0) rfl
  have x1 := (bq.below b4 bq.lt).cell (j := 1) rfl
  go_enter Try.func74, Try.ntmps74
  go_upto_region 2 with (at_builtin; (refine Wt.app_rd rfl _ _ rfl w.heap.size (.slice (some ⟨w.heap.size + 1, 0, none⟩) 0 0) 0 [] rfl o4 rfl hw4 (by omega) (by simp; omega) ?_); (intro v3 w3 o3 g3))
  clear hwA
  have b3 : Below w.heap.size w w3 := (b0.trans (b4.mono (by omega))).grown g3 (by simp; omega) (own_ge o4)
  replace bq := (bq.below b4 bq.lt).grown_own o4 g3 (by decide)
  have zz3 := g3.size
  have zz4 := b4.size
  replace hs := (hs.below b4 (by omega)).below ((Below.refl (wA.heap.size) _).grown g3 (by simp) (fun j hj => by simp [Value.ownBlock] at hj; omega)) (by omega)
  have oR := Ow.of_own Wt.cells_len o3 (l := lw) (by simp) (by rw [← H1.out]; omega)
  clear o3 o4 b4 hw4 g3 x0 x1 hw b0
  have HI := Lib.hid (show Qu.all (ls.take 0) lw = lw from rfl)
  go_wp2_with fail
  go_loopw [3, 4] (fun v i wr => ∃ (k : Nat), i = .int .i64 k ∧ k ≤ n0 ∧ Below w.heap.size w wr ∧ Box wr w.heap.size 31 [.slice A0 n0 d0, .slice A1 n1 d1] ∧ Rd Sl.cells 3 wr lo hi (.slice A0 n0 d0) ls ∧ Ow Wt.cells 2 69 wr w.heap.size wr.heap.size v (Qu.all (ls.take k) lw)) (fun _ i _ => n0 - (intOf i).toNat)
  case atStart => exact ⟨0, rfl, Nat.zero_le _, b3, bq, hs, by rw [HI.out]; exact oR⟩
  case round =>
    clear b3 bq hs oR HI
    obtain ⟨k, rfl, hk, hb, bq, hs, oR⟩ := hrel
    have x0 := bq.cell (j := 0) rfl
    have x1 := bq.cell (j := 1) rfl
    by_cases hlt : k < n0
    · obtain ⟨b, off, s, rfl, hsk, _, hbl, f0, f1, f2⟩ := Sl.get hs hlt (Below.refl wr.heap.size wr) (by have := hb.size; omega)
      have hki : (k : Int) < (n0 : Int) := by omega
      have hkd : decide ((k : Int) < (n0 : Int)) = true := decide_eq_true hki
      have zz := hb.size
      have b5 := (Below.refl wr.heap.size wr).alloc (Nat.le_refl _) (.cells #[.int .i64 s.state, .int .i64 s.irq, .int .i64 s.prio] 65)
      have bs := Box.new wr #[.int .i64 s.state, .int .i64 s.irq, .int .i64 s.prio] 65 rfl
      have zw := bq.lt
      go_upto_region 6 with fail
      replace bq := bq.below b5 bq.lt
      replace hs := hs.below b5 (by omega)
      replace oR := (oR.below b5 (Nat.le_refl _)).mono (Nat.le_refl _) b5.size
      replace hb := hb.trans (b5.mono hb.size)
      have zg := bs.lt
      clear b5 f0 f1 f2 x0 x1
      generalize wr.alloc _ = w5 at *
      generalize wr.heap.size = gs at *
      have hN := Qu.all_pre (lw := lw) hsk.out
      by_cases h13 : s.state = 1 ∨ s.state = 3
      · have HN := Lib.hid (show Qu.all (ls.take (k + 1)) lw = Wt.ins (Qu.all (ls.take k) lw) ⟨s.irq, s.prio⟩ from by
          rw [hN, if_pos (by rcases h13 with h | h <;> simp [Sl.isPend, h])]; rfl)
        have hal := Qu.all_len (ls.take k) lw
        rw [List.length_take] at hal
        have HA := Lib.hid (show (Qu.all (ls.take k) lw).length ≤ 1048576 from by rw [← H1.out] at hal; omega)
        clear hN hal
        obtain ⟨A3, n3, d3, rfl, _, _, _⟩ := oR.rd.form
        have y1 := bs.cell (j := 1) rfl
        have y2 := bs.cell (j := 2) rfl
        have y0 := bs.cell (j := 0) rfl
        rcases h13 with h13 | h13
        all_goals
          rw [h13] at y0
          clear h13
          go_wp2_with fail
          refine (specWait_any _ _ ⟨s.irq, s.prio⟩ w5 oR.rd (Nat.le_refl _) HA.out).mono ?_; rintro q_ w6 ⟨v6, rfl, o6, b6⟩
          go_wp2_with fail
          go_roundw
          case rel => exact ⟨k + 1, by go_num, by omega, hb.trans (b6.mono hb.size), bq.below b6 bq.lt, hs.below b6 (by omega), by rw [HN.out]; exact o6.mono (by omega) (Nat.le_refl _)⟩
          case measure => simp [intOf]; omega
      · have HN := Lib.hid (show Qu.all (ls.take (k + 1)) lw = Qu.all (ls.take k) lw from by
          rw [hN, if_neg (by intro e; simp [Sl.isPend] at e; exact h13 e)])
        have hb1 : (s.state == 1) = false := by rw [beq_eq_false_iff_ne]; exact fun e => h13 (.inl e)
        have hb3 : (s.state == 3) = false := by rw [beq_eq_false_iff_ne]; exact fun e => h13 (.inr e)
        have y0 := bs.cell (j := 0) rfl
        clear hN h13
        go_wp2_with fail
        go_roundw
        case rel => exact ⟨k + 1, by go_num, by omega, hb, bq, hs, by rw [HN.out]; exact oR⟩
        case measure => simp [intOf]; omega
    · have hk0 : k = n0 := by omega
      have hkd : decide ((k : Int) < (n0 : Int)) = false := decide_eq_false (by omega)
      have HE := Lib.hid (show ls.take k = ls from List.take_of_length_le (by rw [← H0.out]; omega))
      rw [HE.out] at oR
      clear hk0
      have hal := Qu.all_len ls lw
      rw [← H1.out, ← H0.out] at hal
      obtain ⟨A3, n3, d3, rfl, H3, _, _⟩ := oR.rd.form
      rw [← H3.out] at hal
      obtain ⟨xs, HX⟩ : ∃ xs, Hid (Qu.all ls lw = xs) := ⟨_, Lib.hid rfl⟩
      rw [HX.out] at oR
      simp only [HX.out] at H3
      have o6 := own_empty wr (base := w.heap.size) 3 1 hb.size
      have b6 := (Below.refl wr.heap.size wr).alloc (Nat.le_refl _) (.cells #[] 3)
      have hal3 : n3 ≤ 12 := by omega
      clear hal
      go_wp2_with fail
      replace hb := hb.trans (b6.mono hb.size)
      replace oR := oR.below b6 (Nat.le_refl _)
      have zz6 := b6.size
      clear b6 bq hs x0 x1
      generalize wr.alloc _ = w6 at *
      generalize wr.heap.size = g6 at *
      go_loopw [6, 7] (fun v i wz => ∃ j : Nat, i = .int .i64 j ∧ j ≤ n3 ∧ Below w.heap.size w wz ∧ Ow Wt.cells 2 69 wz w.heap.size wz.heap.size (.slice A3 n3 d3) xs ∧ wz.ownsRow w.heap.size 3 1 v j (((xs.take j).map Wt.irq).flatMap Nm.cells)) (fun _ i _ => n3 - (intOf i).toNat)
      case atStart => exact ⟨0, rfl, Nat.zero_le _, hb, oR.mono (Nat.le_refl _) (by omega), o6⟩
      case round =>
        clear hb oR o6
        obtain ⟨j, rfl, hj, hb, oR, ho⟩ := hrel
        by_cases hlt : j < n3
        · obtain ⟨b, off, x, rfl, hx, _, hbl, f0, f1⟩ := Wt.get oR.rd hlt (Below.refl wr.heap.size wr) (Nat.le_refl _)
          have hki : (j : Int) < (n3 : Int) := by omega
          have hkd : decide ((j : Int) < (n3 : Int)) = true := decide_eq_true hki
          have HM := Lib.hid (map_take_succ hx.out)
          have b7 := (Below.refl wr.heap.size wr).alloc (Nat.le_refl _) (.cells #[.int .i64 x.irq] 3)
          have ho7 := ho.alloc (.cells #[.int .i64 x.irq] 3)
          go_wp2_with (at_builtin; (refine Nm.app_one rfl _ _ rfl w.heap.size u6 j _ rfl ho7 (g := wr.heap.size) (c := 1) x.irq rfl (fun j u hu => cell_new _ _ _ rfl (by simpa [Nm.cells] using hu)) (by omega) (by have := hb.size; simp; omega) ?_); (intro v8 w8 ho8 g8))
          have zz8 := g8.size
          have zz7 := b7.size
          go_roundw
          case rel => exact ⟨j + 1, by go_num, by omega, (hb.alloc hb.size _).grown g8 (by have := hb.size; simp; omega) (own_ge ho7), ((oR.below b7 (Nat.le_refl _)).grown_own ho7 g8 (by decide)).mono (Nat.le_refl _) (by omega), by rw [HM.out, List.flatMap_append]; simpa using ho8⟩
          case measure => simp [intOf]; omega
        · have hkd : decide ((j : Int) < (n3 : Int)) = false := decide_eq_false (by omega)
          have HE := Lib.hid (show xs.take j = xs from List.take_of_length_le (by rw [← H3.out]; omega))
          rw [HE.out] at ho
          have oF := Ow.of_own Nm.cells_len ho rfl (by rw [List.length_map, ← H3.out]; omega)
          obtain ⟨A9, n9, d9, rfl, _, _, _⟩ := oF.rd.form
          go_wp2_with fail
          go_ret
          exact ⟨.slice A9 n9 d9, rfl, by rw [HX.out]; exact oF, hb⟩
set_option maxHeartbeats 8000000 in
set_option maxRecDepth 8000 in
theorem implPend_in (vs vw : Value) (ls : List Sl) (lw : List Wt) (w : World) {lo hi lo2 hi2 : Nat} (h : Rd Sl.cells 3 w lo hi vs ls) (h2 : Rd Wt.cells 2 w lo2 hi2 vw lw) (hh : hi ≤ w.heap.size) (hh2 : hi2 ≤ w.heap.size) (hp : Qu.parts ls lw = true) :
    Calls Try.prog 75 #[.agg #[vs, vw]] w fun e w' => ∃ v', e = .returned v' ∧ Ow Nm.cells 1 3 w' w.heap.size w'.heap.size v' ((Qu.all ls lw).map Wt.irq) ∧ Below w.heap.size w w' := by
  have b0 : Below w.heap.size w (w.alloc (.cells #[vs, vw] 31)) := (Below.refl w.heap.size w).alloc (Nat.le_refl _) _
  have z0 : (w.alloc (.cells #[vs, vw] 31)).heap.size = w.heap.size + 1 := by simp
  have bq := Box.new w #[vs, vw] 31 rfl
  have hs := h.below b0 hh
  have hw := h2.below b0 hh2
  have hv := h.form
  have hv2 := h2.form
  clear h h2
  generalize hwA : w.alloc (.cells #[vs, vw] 31) = wA at *
  obtain ⟨A0, n0, d0, rfl, H0, hd0, hm0⟩ := hv
  obtain ⟨A1, n1, d1, rfl, H1, hd1, hm1⟩ := hv2
  have hl1 := Sl.good_len (Qu.parts_get hp).1
  have hl2 := Qu.parts_len hp
  have hn0 : n0 ≤ 4 := by rw [H0.out]; omega
  have hn1 : n1 ≤ 8 := by rw [H1.out]; exact hl2
  have HA := Lib.hid (Qu.all_facts hp).1
  clear hp hl1 hl2
  have o4 := own_empty_at wA (base := w.heap.size) (g := w.heap.size + 1) 69 2 z0.symm (by omega)
  have b4 := (Below.refl wA.heap.size wA).alloc (Nat.le_refl _) (.cells #[] 69)
  have hw4 := hw.below b4 (by omega)
  have x0 := (bq.below b4 bq.lt).cell (j := 0) rfl
  have x1 := (bq.below b4 bq.lt).cell (j := 1) rfl
  go_enter Try.func75, Try.ntmps75
  go_upto_region 2 with (at_builtin; (refine Wt.app_rd rfl _ _ rfl w.heap.size (.slice (some ⟨w.heap.size + 1, 0, none⟩) 0 0) 0 [] rfl o4 rfl hw4 (by omega) (by simp; omega) ?_); (intro v3 w3 o3 g3))
  clear hwA
  have b3 : Below w.heap.size w w3 := (b0.trans (b4.mono (by omega))).grown g3 (by simp; omega) (own_ge o4)
  replace bq := (bq.below b4 bq.lt).grown_own o4 g3 (by decide)
  have zz3 := g3.size
  have zz4 := b4.size
  replace hs := (hs.below b4 (by omega)).below ((Below.refl (wA.heap.size) _).grown g3 (by simp) (fun j hj => by simp [Value.ownBlock] at hj; omega)) (by omega)
  have o5 := own_empty w3 (base := w.heap.size) 3 1 b3.size
  have b5 := (Below.refl w3.heap.size w3).alloc (Nat.le_refl _) (.cells #[] 3)
  replace o3 := own_below o3 b5
  replace bq := bq.below b5 bq.lt
  replace hs := hs.below b5 (by omega)
  replace b3 := b3.trans (b5.mono b3.size)
  clear o4 b4 hw4 g3 x0 x1 hw b0 b5
  obtain ⟨gI, hgI⟩ : ∃ g, g = w3.heap.size := ⟨_, rfl⟩
  rw [← hgI] at o5 ⊢
  generalize w3.alloc _ = w5 at *
  have x0 := bq.cell (j := 0) rfl
  have x1 := bq.cell (j := 1) rfl
  clear hgI
  go_wp2_with fail
  go_loopw [3, 17] (fun v i wr => ∃ (k m : Nat), i = .int .i64 k ∧ k ≤ n0 ∧ Hid (m = (lw ++ Sl.pends (ls.take k)).length) ∧ m ≤ 8 + k ∧ Below w.heap.size w wr ∧ Rd Sl.cells 3 wr lo hi (.slice A0 n0 d0) ls ∧ wr.ownsRow w.heap.size 69 2 v m ((lw ++ Sl.pends (ls.take k)).flatMap Wt.cells) ∧ wr.ownsRow w.heap.size 3 1 (.slice (some ⟨gI, 0, none⟩) 0 0) 0 []) (fun _ i _ => n0 - (intOf i).toNat)
  case atStart => exact ⟨0, n1, rfl, Nat.zero_le _, Lib.hid (by rw [H1.out]; simp [Sl.pends]), by omega, b3, hs, by simpa [Sl.pends] using o3, o5⟩
  case round =>
    clear b3 bq hs o3 o5 x0 x1
    obtain ⟨k, m, rfl, hk, HM, hm, hb, hs, ho, hI⟩ := hrel
    by_cases hlt : k < n0
    · obtain ⟨b, off, s, rfl, hsk, _, hbl, f0, f1, f2⟩ := Sl.get hs hlt (Below.refl wr.heap.size wr) (by have := hb.size; omega)
      have hki : (k : Int) < (n0 : Int) := by omega
      have hkd : decide ((k : Int) < (n0 : Int)) = true := decide_eq_true hki
      have zz := hb.size
      have b5 := (Below.refl wr.heap.size wr).alloc (Nat.le_refl _) (.cells #[.int .i64 s.state, .int .i64 s.irq, .int .i64 s.prio] 65)
      have bs := Box.new wr #[.int .i64 s.state, .int .i64 s.irq, .int .i64 s.prio] 65 rfl
      go_upto_region 5 with fail
      replace hs := hs.below b5 (by omega)
      replace ho := own_below ho b5
      replace hI := own_below hI b5
      replace hb := hb.trans (b5.mono hb.size)
      have zg := bs.lt
      clear b5 f0 f1 f2
      generalize wr.alloc _ = w5 at *
      generalize wr.heap.size = gs at *
      have hN := Sl.pends_pre hsk.out
      by_cases h13 : s.state = 1 ∨ s.state = 3
      · have HN := Lib.hid (show lw ++ Sl.pends (ls.take (k + 1)) = (lw ++ Sl.pends (ls.take k)) ++ [⟨s.irq, s.prio⟩] from by
          rw [hN, if_pos (by rcases h13 with h | h <;> simp [Sl.isPend, h]), List.append_assoc]; rfl)
        clear hN
        have y1 := bs.cell (j := 1) rfl
        have y2 := bs.cell (j := 2) rfl
        have y0 := bs.cell (j := 0) rfl
        rcases h13 with h13 | h13
        all_goals
          rw [h13] at y0
          clear h13
          go_wp2_with fail
          refine (waiterOf_at _ _ _ _).mono ?_; rintro q_ w6 ⟨rfl, b6⟩
          replace hs := hs.below b6 (by omega)
          replace ho := own_below ho b6
          replace hI := own_below hI b6
          replace hb := hb.trans (b6.mono hb.size)
          have zz6 := b6.size
          clear b6 y0 y1 y2
          have b7 := (Below.refl w6.heap.size w6).alloc (Nat.le_refl _) (.cells #[.int .i64 s.irq, .int .i64 s.prio] 69)
          have ho7 := ho.alloc (.cells #[.int .i64 s.irq, .int .i64 s.prio] 69)
          have hI7 := hI.alloc (.cells #[.int .i64 s.irq, .int .i64 s.prio] 69)
          go_wp2_with (at_builtin; (refine Wt.app_one rfl _ _ rfl w.heap.size u3 m _ rfl ho7 (g := w6.heap.size) (c := 1) ⟨s.irq, s.prio⟩ rfl (fun j u hu => cell_new _ _ _ rfl (by simpa [Wt.cells] using hu)) (by omega) (by have := hb.size; simp; omega) ?_); (intro v8 w8 ho8 g8))
          have zz8 := g8.size
          have zz7 := b7.size
          go_roundw
          case rel => exact ⟨k + 1, m + 1, by go_num, by omega, Lib.hid (by rw [HN.out, List.length_append, HM.out]; rfl), by omega, (hb.alloc hb.size _).grown g8 (by have := hb.size; simp; omega) (own_ge ho7), ((hs.below b7 (by omega)).below ((Below.refl w.heap.size _).grown g8 (by simp; omega) (own_ge ho7)) (by omega)), by rw [HN.out, List.flatMap_append]; simpa using ho8, own_kept_type hI7 ho7 g8 (by decide)⟩
          case measure => simp [intOf]; omega
      · have HN := Lib.hid (show Sl.pends (ls.take (k + 1)) = Sl.pends (ls.take k) from by
          rw [hN, if_neg (by intro e; simp [Sl.isPend] at e; exact h13 e), List.append_nil])
        have hb1 : (s.state == 1) = false := by rw [beq_eq_false_iff_ne]; exact fun e => h13 (.inl e)
        have hb3 : (s.state == 3) = false := by rw [beq_eq_false_iff_ne]; exact fun e => h13 (.inr e)
        have y0 := bs.cell (j := 0) rfl
        clear hN h13
        go_wp2_with fail
        go_roundw
        case rel => exact ⟨k + 1, m, by go_num, by omega, by rw [HN.out]; exact HM, by omega, hb, hs, by rw [HN.out]; exact ho, hI⟩
        case measure => simp [intOf]; omega
    · have hk0 : k = n0 := by omega
      have hkd : decide ((k : Int) < (n0 : Int)) = false := decide_eq_false (by omega)
      have HE := Lib.hid (show ls.take k = ls from List.take_of_length_le (by rw [← H0.out]; omega))
      rw [HE.out] at ho HM
      clear hk0 hs
      have oW := Ow.of_own Wt.cells_len ho rfl HM.out
      have c1 := fun hl => sortW_any w u3 (lw ++ Sl.pends ls) hl wr hb oW (Nat.le_refl _)
      have c1 := c1 (by rw [← HM.out]; omega)
      rw [HA.out] at c1
      obtain ⟨xs, HX⟩ : ∃ xs, Hid (Qu.all ls lw = xs) := ⟨_, Lib.hid rfl⟩
      rw [HX.out] at c1
      have H3 := Lib.hid (show m = xs.length from by rw [← HX.out, ← HA.out, sortK_len]; exact HM.out)
      have hal3 : m ≤ 12 := by omega
      obtain ⟨A3, n3, d3, rfl, H4, _, _⟩ := oW.rd.form
      obtain rfl : n3 = m := H4.out.trans HM.out.symm
      clear ho H4
      go_wp2_with fail
      refine c1.mono ?_; rintro q_ w6 ⟨rfl, oR, hz6, hb6, t6⟩
      have o6 := own_turned hI oW t6 (by decide)
      clear hI oW t6 c1 hb
      replace oR := oR.mono (Nat.le_refl _) hz6
      have hb := hb6
      clear hb6 hz6
      go_wp2_with fail
      go_loopw [4, 39] (fun v i wz => ∃ j : Nat, i = .int .i64 j ∧ j ≤ n3 ∧ Below w.heap.size w wz ∧ Ow Wt.cells 2 69 wz w.heap.size wz.heap.size (.slice A3 n3 d3) xs ∧ wz.ownsRow w.heap.size 3 1 v j (((xs.take j).map Wt.irq).flatMap Nm.cells)) (fun _ i _ => n3 - (intOf i).toNat)
      case atStart => exact ⟨0, rfl, Nat.zero_le _, hb, oR.mono (Nat.le_refl _) (by omega), o6⟩
      case round =>
        clear hb oR o6
        obtain ⟨j, rfl, hj, hb, oR, ho⟩ := hrel
        by_cases hlt : j < n3
        · obtain ⟨b, off, x, rfl, hx, _, hbl, f0, f1⟩ := Wt.get oR.rd hlt (Below.refl wr.heap.size wr) (Nat.le_refl _)
          have hki : (j : Int) < (n3 : Int) := by omega
          have hkd : decide ((j : Int) < (n3 : Int)) = true := decide_eq_true hki
          have HM := Lib.hid (map_take_succ hx.out)
          have b5 := (Below.refl wr.heap.size wr).alloc (Nat.le_refl _) (.cells #[.int .i64 x.irq, .int .i64 x.prio] 69)
          have bs := Box.new wr #[.int .i64 x.irq, .int .i64 x.prio] 69 rfl
          go_upto_region 12 with fail
          replace oR := (oR.below b5 (Nat.le_refl _)).mono (Nat.le_refl _) b5.size
          replace ho := own_below ho b5
          replace hb := hb.trans (b5.mono hb.size)
          have zg := bs.lt
          have zz5 := b5.size
          clear b5 f0 f1
          generalize wr.alloc _ = w5 at *
          generalize wr.heap.size = gs at *
          have y0 := bs.cell (j := 0) rfl
          have y1 := bs.cell (j := 1) rfl
          have b7 := (Below.refl w5.heap.size w5).alloc (Nat.le_refl _) (.cells #[.int .i64 x.irq] 3)
          have ho7 := ho.alloc (.cells #[.int .i64 x.irq] 3)
          go_wp2_with (at_builtin; (refine Nm.app_one rfl _ _ rfl w.heap.size u4 j _ rfl ho7 (g := w5.heap.size) (c := 1) x.irq rfl (fun j u hu => cell_new _ _ _ rfl (by simpa [Nm.cells] using hu)) (by omega) (by have := hb.size; simp; omega) ?_); (intro v8 w8 ho8 g8))
          have zz8 := g8.size
          have zz7 := b7.size
          go_roundw
          case rel => exact ⟨j + 1, by go_num, by omega, (hb.alloc hb.size _).grown g8 (by have := hb.size; simp; omega) (own_ge ho7), ((oR.below b7 (Nat.le_refl _)).grown_own ho7 g8 (by decide)).mono (Nat.le_refl _) (by omega), by rw [HM.out, List.flatMap_append]; simpa using ho8⟩
          case measure => simp [intOf]; omega
        · have hkd : decide ((j : Int) < (n3 : Int)) = false := decide_eq_false (by omega)
          have HE := Lib.hid (show xs.take j = xs from List.take_of_length_le (by rw [← H3.out]; omega))
          rw [HE.out] at ho
          have oF := Ow.of_own Nm.cells_len ho rfl (by rw [List.length_map, ← H3.out]; omega)
          obtain ⟨A9, n9, d9, rfl, _, _, _⟩ := oF.rd.form
          go_wp2_with fail
          go_ret
          exact ⟨.slice A9 n9 d9, rfl, by rw [HX.out]; exact oF, hb⟩
set_option maxHeartbeats 4000000 in
theorem specPendingIrqs_any (vs vw : Value) (ls : List Sl) (lw : List Wt) (w : World) {lo hi lo2 hi2 : Nat} (h : Rd Sl.cells 3 w lo hi vs ls) (h2 : Rd Wt.cells 2 w lo2 hi2 vw lw) (hh : hi ≤ w.heap.size) (hh2 : hi2 ≤ w.heap.size) :
    Calls Try.prog 41 #[.agg #[vs, vw]] w fun e w' => ∃ v', e = .returned (.tuple #[v', .bool (Qu.good ls lw)]) ∧ Ow Nm.cells 1 3 w' w.heap.size w'.heap.size v' (Qu.peL ls lw) ∧ Below w.heap.size w w' := by
  have b0 : Below w.heap.size w (w.alloc (.cells #[vs, vw] 31)) := (Below.refl w.heap.size w).alloc (Nat.le_refl _) _
  have z0 : (w.alloc (.cells #[vs, vw] 31)).heap.size = w.heap.size + 1 := by simp
  have bq := Box.new w #[vs, vw] 31 rfl
  have hs := h.below b0 hh
  have hw := h2.below b0 hh2
  have hv := h.form
  have hv2 := h2.form
  clear h h2
  generalize hwA : w.alloc (.cells #[vs, vw] 31) = wA at *
  obtain ⟨A0, n0, d0, rfl, H0, hd0, hm0⟩ := hv
  obtain ⟨A1, n1, d1, rfl, H1, hd1, hm1⟩ := hv2
  have c1 := l9Good_any _ _ ls lw wA hs hw (by omega) (by omega)
  have x0 := bq.cell (j := 0) rfl
  have x1 := bq.cell (j := 1) rfl
  cases hg : Qu.good ls lw
  · have HF := Lib.hid (Qu.pe_no hg)
    rw [hg] at c1
    clear hg
    go_enter Try.func41, Try.ntmps41
    go_wp2_with fail
    refine c1.mono ?_; rintro q_ w1 ⟨rfl, b1⟩
    replace b0 := b0.trans (b1.mono (by omega))
    go_wp2_with fail
    go_ret2
    exact ⟨_, rfl, by rw [HF.out]; exact Ow.lit0, b0.alloc b0.size _⟩
  · have HF := Lib.hid (Qu.pe_yes hg)
    have HP := Lib.hid (Qu.good_parts hg).1
    rw [hg] at c1
    clear hg
    go_enter Try.func41, Try.ntmps41
    go_wp2_with fail
    clear hwA
    refine c1.mono ?_; rintro q_ w1 ⟨rfl, b1⟩
    replace bq := bq.below b1 bq.lt
    have z1 := b1.size
    replace hs := hs.below b1 (by omega)
    replace hw := hw.below b1 (by omega)
    replace b0 := b0.trans (b1.mono (by omega))
    clear b1 x0 x1
    have x0 := bq.cell (j := 0) rfl
    have x1 := bq.cell (j := 1) rfl
    go_wp2_with fail
    refine (specPend_in _ _ ls lw w1 hs hw (by omega) (by omega) HP.out).mono ?_; rintro q_ w2 ⟨v2, rfl, o2, b2⟩
    go_wp2_with fail
    go_ret2
    exact ⟨_, rfl, by rw [HF.out]; exact o2.mono (by omega) (Nat.le_refl _), b0.trans (b2.mono b0.size)⟩
set_option maxHeartbeats 4000000 in
theorem implPendingIrqs_any (vs vw : Value) (ls : List Sl) (lw : List Wt) (w : World) {lo hi lo2 hi2 : Nat} (h : Rd Sl.cells 3 w lo hi vs ls) (h2 : Rd Wt.cells 2 w lo2 hi2 vw lw) (hh : hi ≤ w.heap.size) (hh2 : hi2 ≤ w.heap.size) :
    Calls Try.prog 42 #[.agg #[vs, vw]] w fun e w' => ∃ v', e = .returned (.tuple #[v', .bool (Qu.good ls lw)]) ∧ Ow Nm.cells 1 3 w' w.heap.size w'.heap.size v' (Qu.peL ls lw) ∧ Below w.heap.size w w' := by
  have b0 : Below w.heap.size w (w.alloc (.cells #[vs, vw] 31)) := (Below.refl w.heap.size w).alloc (Nat.le_refl _) _
  have z0 : (w.alloc (.cells #[vs, vw] 31)).heap.size = w.heap.size + 1 := by simp
  have bq := Box.new w #[vs, vw] 31 rfl
  have hs := h.below b0 hh
  have hw := h2.below b0 hh2
  have hv := h.form
  have hv2 := h2.form
  clear h h2
  generalize hwA : w.alloc (.cells #[vs, vw] 31) = wA at *
  obtain ⟨A0, n0, d0, rfl, H0, hd0, hm0⟩ := hv
  obtain ⟨A1, n1, d1, rfl, H1, hd1, hm1⟩ := hv2
  have c1 := implIsQueue_any _ _ ls lw wA hs hw (by omega) (by omega)
  have x0 := bq.cell (j := 0) rfl
  have x1 := bq.cell (j := 1) rfl
  cases hg : Qu.good ls lw
  · have HF := Lib.hid (Qu.pe_no hg)
    rw [hg] at c1
    clear hg
    go_enter Try.func42, Try.ntmps42
    go_wp2_with fail
    refine c1.mono ?_; rintro q_ w1 ⟨rfl, b1⟩
    replace b0 := b0.trans (b1.mono (by omega))
    go_wp2_with fail
    go_ret2
    exact ⟨_, rfl, by rw [HF.out]; exact Ow.lit0, b0⟩
  · have HF := Lib.hid (Qu.pe_yes hg)
    have HP := Lib.hid (Qu.good_parts hg).1
    rw [hg] at c1
    clear hg
    go_enter Try.func42, Try.ntmps42
    go_wp2_with fail
    clear hwA
    refine c1.mono ?_; rintro q_ w1 ⟨rfl, b1⟩
    replace bq := bq.below b1 bq.lt
    have z1 := b1.size
    replace hs := hs.below b1 (by omega)
    replace hw := hw.below b1 (by omega)
    replace b0 := b0.trans (b1.mono (by omega))
    clear b1 x0 x1
    have x0 := bq.cell (j := 0) rfl
    have x1 := bq.cell (j := 1) rfl
    go_wp2_with fail
    refine (implPend_in _ _ ls lw w1 hs hw (by omega) (by omega) HP.out).mono ?_; rintro q_ w2 ⟨v2, rfl, o2, b2⟩
    go_wp2_with fail
    go_ret2
    exact ⟨_, rfl, by rw [HF.out]; exact o2.mono (by omega) (Nat.le_refl _), b0.trans (b2.mono b0.size)⟩

end Go.Proofs.Ytghfdoibabaadaa
