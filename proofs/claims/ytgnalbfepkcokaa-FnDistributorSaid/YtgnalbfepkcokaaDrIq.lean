/- The reference's draws of irqs and numbers: they return something, in new memory. Condition: at most 100000 reads before. -/
import Derived.Test.YtgnalbfepkcokaaCur
import Derived.Test.YtgnalbfepkcokaaTyIrq
namespace Go.Proofs.Ytgnalbfepkcokaa
open Go.RowKit Go.ChangeShapes Go.WideShapes Go.Deep

set_option maxRecDepth 8000 in
set_option maxHeartbeats 4000000 in
theorem irqs_any (g k : Nat) (cv : Value) (l : List UInt8) (w : World) {lo hi : Nat} (h : Rd By.cells 1 w lo hi cv l) (hh : hi ≤ w.heap.size) (hg : g < lo ∨ hi ≤ g) (hc : Cur w g cv k) (hk : k ≤ 100000) :
    Calls Try.prog 98 #[.pointer (some ⟨g, 0, none⟩)] w fun e w' => ∃ v, ∃ ls : List Iq, e = .returned v ∧ ls.length ≤ 9 ∧ Ow Iq.cells 5 62 w' w.heap.size w'.heap.size v ls ∧ w.grownBy w' (some g) ∧ Cur w' g cv (k + 300) := by
  have hgl := hc.lt
  have hG := World.grownBy.refl w (some g)
  go_enter Try.func98, Try.ntmps98
  have oK := own_empty w (base := w.heap.size) 62 5 (Nat.le_refl _)
  have ga0 := grown_alloc w (.cells #[] 62)
  have za0 : (w.alloc (.cells #[] 62)).heap.size = w.heap.size + 1 := by simp
  go_wp2_with fail
  replace hc := hc.grown0 ga0
  replace h := h.grown ga0 (by omega) (fun q e => by cases e)
  replace hG := grown_trans hG (grown_weaken ga0)
  have z_1 := ga0.size
  clear ga0
  generalize w.alloc _ = wA at *
  go_loopw [3, 4] (fun v3 v4 wr => ∃ (i : Nat) (ls : List Iq), i ≤ 8 ∧ v4 = .int .i64 i ∧ Hid (ls.length = i) ∧ w.grownBy wr (some g) ∧ Cur wr g cv (k + 20 * i) ∧ w.heap.size ≤ wr.heap.size ∧ Rd By.cells 1 wr lo hi cv l ∧ wr.ownsRow w.heap.size 62 5 v3 i (ls.flatMap Iq.cells)) (fun _ v4 _ => 8 - (intOf v4).toNat)
  case atStart => exact ⟨0, [], Nat.zero_le _, rfl, Lib.hid rfl, hG, hc.mono (by omega), by omega, h, oK⟩
  case round =>
    clear hc hG h oK
    obtain ⟨i, ls, hi8, rfl, HL, hG, hc, zw, h, oK⟩ := hrel
    by_cases hlt : i < 8
    · have hki : (i : Int) < 8 := by omega
      go_wp2_with fail
      refine (one_any g _ _ l 4 wr h (by omega) hg hc (by omega) (by omega)).mono ?_; rintro q_ w101 ⟨b1, rfl, gg101, kk101⟩
      clear hc
      replace h := h.grown gg101 (by omega) (fun q e => by injection e with e; omega)
      replace oK := oK.kept gg101 (.inr (fun e => by have := own_ge oK _ e; omega))
      replace hG := grown_trans hG gg101
      have z_102 := gg101.size
      clear gg101
      go_wp2_with fail
      refine (one_any g _ _ l 2 w101 h (by omega) hg kk101 (by omega) (by omega)).mono ?_; rintro q_ w103 ⟨b2, rfl, gg103, kk103⟩
      clear kk101
      replace h := h.grown gg103 (by omega) (fun q e => by injection e with e; omega)
      replace oK := oK.kept gg103 (.inr (fun e => by have := own_ge oK _ e; omega))
      replace hG := grown_trans hG gg103
      have z_104 := gg103.size
      clear gg103
      go_wp2_with fail
      refine (one_any g _ _ l 5 w103 h (by omega) hg kk103 (by omega) (by omega)).mono ?_; rintro q_ w105 ⟨b3, rfl, gg105, kk105⟩
      clear kk103
      replace h := h.grown gg105 (by omega) (fun q e => by injection e with e; omega)
      replace oK := oK.kept gg105 (.inr (fun e => by have := own_ge oK _ e; omega))
      replace hG := grown_trans hG gg105
      have z_106 := gg105.size
      clear gg105
      go_wp2_with fail
      refine (pick_any g _ _ l 8 w105 h (by omega) hg kk105 (by omega) (by omega)).mono ?_; rintro q_ w107 ⟨x4, rfl, x4_0, x4_1, gg107, kk107⟩
      clear kk105
      replace h := h.grown gg107 (by omega) (fun q e => by injection e with e; omega)
      replace oK := oK.kept gg107 (.inr (fun e => by have := own_ge oK _ e; omega))
      replace hG := grown_trans hG gg107
      have z_108 := gg107.size
      clear gg107
      clear x4_0 x4_1
      go_wp2_with fail
      have rl := lit_ints w107 [0, 0, 0, 1, 1, 2, 3] #[.int .i64 0, .int .i64 0, .int .i64 0, .int .i64 1, .int .i64 1, .int .i64 2, .int .i64 3] 7 rfl rfl (by decide)
      have ga109 := grown_alloc w107 (.cells #[.int .i64 0, .int .i64 0, .int .i64 0, .int .i64 1, .int .i64 1, .int .i64 2, .int .i64 3] 3)
      have za109 : (w107.alloc (.cells #[.int .i64 0, .int .i64 0, .int .i64 0, .int .i64 1, .int .i64 1, .int .i64 2, .int .i64 3] 3)).heap.size = w107.heap.size + 1 := by simp
      replace kk107 := kk107.grown0 ga109
      replace h := h.grown ga109 (by omega) (fun q e => by cases e)
      replace oK := oK.kept ga109 (own_none _)
      replace hG := grown_trans hG (grown_weaken ga109)
      have z_110 := ga109.size
      clear ga109
      generalize w107.alloc _ = w109 at *
      generalize hgz110 : w107.heap.size = gz110 at *
      clear hgz110
      refine (among_any g _ _ _ l [0, 0, 0, 1, 1, 2, 3] w109 h (by omega) hg rl (by omega) (by omega) (by decide) (by decide) kk107 (by omega)).mono ?_; rintro q_ w111 ⟨x5, rfl, gg111, kk111⟩
      clear kk107
      replace h := h.grown gg111 (by omega) (fun q e => by injection e with e; omega)
      replace oK := oK.kept gg111 (.inr (fun e => by have := own_ge oK _ e; omega))
      replace hG := grown_trans hG gg111
      have z_112 := gg111.size
      clear gg111
      clear rl
      have ga8 := grown_alloc w111 (.cells #[.bool !b1, .bool b2, .bool b3, .int .i64 x4, .int .i64 x5] 62)
      have za8 : (w111.alloc (.cells #[.bool !b1, .bool b2, .bool b3, .int .i64 x4, .int .i64 x5] 62)).heap.size = w111.heap.size + 1 := by simp
      have oL := oK.alloc (.cells #[.bool !b1, .bool b2, .bool b3, .int .i64 x4, .int .i64 x5] 62)
      go_wp2_with (at_builtin; (refine Iq.app_one rfl _ _ rfl w.heap.size u3 i _ rfl oL (g := w111.heap.size) (c := 1) ⟨!b1, b2, b3, x4, x5⟩ rfl (fun j u hu => cell_new _ _ _ rfl (by simpa [Iq.cells] using hu)) (by omega) (by omega) ?_); (intro v8 w8 o8 g8))
      replace hG := grown_new (grown_trans hG (grown_weaken ga8)) g8 (fun q e => by have := own_ge oL _ e; omega)
      replace kk111 := (kk111.grown0 ga8).row g8 (fun b e => by have := own_ge oL _ e; omega)
      replace h := (h.grown ga8 (by omega) (fun q e => by cases e)).grown g8 (by omega) (fun q e => by have := own_ge oL _ e; omega)
      have z8 := g8.size
      go_roundw
      case rel => exact ⟨i + 1, ls ++ [⟨!b1, b2, b3, x4, x5⟩], by omega, by go_num, Lib.hid (by rw [List.length_append, HL.out]; rfl), hG, kk111.mono (by omega), by omega, h, by rw [List.flatMap_append]; simpa [Iq.cells] using o8⟩
      case measure => simp [intOf]; omega
    · obtain rfl : i = 8 := by omega
      go_wp2_with fail
      refine (pick_any g _ _ l 32 wr h (by omega) hg hc (by omega) (by omega)).mono ?_; rintro q_ w101 ⟨x6, rfl, x6_0, x6_1, gg101, kk101⟩
      clear hc
      replace h := h.grown gg101 (by omega) (fun q e => by injection e with e; omega)
      replace oK := oK.kept gg101 (.inr (fun e => by have := own_ge oK _ e; omega))
      replace hG := grown_trans hG gg101
      have z_102 := gg101.size
      clear gg101
      clear x6_0 x6_1
      by_cases h0 : x6 = 0
      · subst h0
        have ga8 := grown_alloc w101 (.cells #[.bool false, .bool false, .bool false, .int .i64 0, .int .i64 0] 62)
        have za8 : (w101.alloc (.cells #[.bool false, .bool false, .bool false, .int .i64 0, .int .i64 0] 62)).heap.size = w101.heap.size + 1 := by simp
        have oL := oK.alloc (.cells #[.bool false, .bool false, .bool false, .int .i64 0, .int .i64 0] 62)
        go_wp2_with (at_builtin; (refine Iq.app_one rfl _ _ rfl w.heap.size u3 8 _ rfl oL (g := w101.heap.size) (c := 1) ⟨false, false, false, 0, 0⟩ rfl (fun j u hu => cell_new _ _ _ rfl (by simpa [Iq.cells] using hu)) (by omega) (by omega) ?_); (intro v8 w8 o8 g8))
        replace hG := grown_new (grown_trans hG (grown_weaken ga8)) g8 (fun q e => by have := own_ge oL _ e; omega)
        replace kk101 := (kk101.grown0 ga8).row g8 (fun b e => by have := own_ge oL _ e; omega)
        replace h := (h.grown ga8 (by omega) (fun q e => by cases e)).grown g8 (by omega) (fun q e => by have := own_ge oL _ e; omega)
        have z8 := g8.size
        go_ret
        have oR := Ow.of_own Iq.cells_len o8 (l := ls ++ [⟨false, false, false, 0, 0⟩]) (by rw [List.flatMap_append]; simp [Iq.cells]) (by rw [List.length_append, HL.out]; rfl)
        exact ⟨_, _, rfl, by rw [List.length_append, HL.out]; simp, oR, hG, kk101.mono (by omega)⟩
      by_cases h1 : x6 = 1
      · subst h1
        have oR := Ow.of_own Iq.cells_len oK rfl HL.out.symm
        obtain ⟨A, n, c, rfl, H, hnc, hm⟩ := oR.rd.form
        have hn8 : n = 8 := by rw [H.out, HL.out]
        subst hn8
        go_wp2_with fail
        go_ret
        exact ⟨_, _, rfl, by rw [List.length_take]; omega, oR.take_ (by omega), hG, kk101.mono (by omega)⟩
      by_cases h2 : x6 = 2
      · subst h2
        go_wp2_with fail
        refine (pick_any g _ _ l 8 w101 h (by omega) hg kk101 (by omega) (by omega)).mono ?_; rintro q_ w103 ⟨x7, rfl, x7_0, x7_1, gg103, kk103⟩
        clear kk101
        replace h := h.grown gg103 (by omega) (fun q e => by injection e with e; omega)
        replace oK := oK.kept gg103 (.inr (fun e => by have := own_ge oK _ e; omega))
        replace hG := grown_trans hG gg103
        have z_104 := gg103.size
        clear gg103
        go_wp2_with fail
        have rl := lit_ints w103 [-1, 15, 16] #[.int .i64 (-1), .int .i64 15, .int .i64 16] 3 rfl rfl (by decide)
        have ga105 := grown_alloc w103 (.cells #[.int .i64 (-1), .int .i64 15, .int .i64 16] 3)
        have za105 : (w103.alloc (.cells #[.int .i64 (-1), .int .i64 15, .int .i64 16] 3)).heap.size = w103.heap.size + 1 := by simp
        replace kk103 := kk103.grown0 ga105
        replace h := h.grown ga105 (by omega) (fun q e => by cases e)
        replace oK := oK.kept ga105 (own_none _)
        replace hG := grown_trans hG (grown_weaken ga105)
        have z_106 := ga105.size
        clear ga105
        generalize w103.alloc _ = w105 at *
        generalize hgz106 : w103.heap.size = gz106 at *
        clear hgz106
        refine (among_any g _ _ _ l [-1, 15, 16] w105 h (by omega) hg rl (by omega) (by omega) (by decide) (by decide) kk103 (by omega)).mono ?_; rintro q_ w107 ⟨x8, rfl, gg107, kk107⟩
        clear kk103
        replace h := h.grown gg107 (by omega) (fun q e => by injection e with e; omega)
        replace oK := oK.kept gg107 (.inr (fun e => by have := own_ge oK _ e; omega))
        replace hG := grown_trans hG gg107
        have z_108 := gg107.size
        clear gg107
        clear rl
        go_wp2_with fail
        have rl := lit_ints w107 [-1, 3, 4] #[.int .i64 (-1), .int .i64 3, .int .i64 4] 3 rfl rfl (by decide)
        have ga109 := grown_alloc w107 (.cells #[.int .i64 (-1), .int .i64 3, .int .i64 4] 3)
        have za109 : (w107.alloc (.cells #[.int .i64 (-1), .int .i64 3, .int .i64 4] 3)).heap.size = w107.heap.size + 1 := by simp
        replace kk107 := kk107.grown0 ga109
        replace h := h.grown ga109 (by omega) (fun q e => by cases e)
        replace oK := oK.kept ga109 (own_none _)
        replace hG := grown_trans hG (grown_weaken ga109)
        have z_110 := ga109.size
        clear ga109
        generalize w107.alloc _ = w109 at *
        generalize hgz110 : w107.heap.size = gz110 at *
        clear hgz110
        refine (among_any g _ _ _ l [-1, 3, 4] w109 h (by omega) hg rl (by omega) (by omega) (by decide) (by decide) kk107 (by omega)).mono ?_; rintro q_ w111 ⟨x9, rfl, gg111, kk111⟩
        clear kk107
        replace h := h.grown gg111 (by omega) (fun q e => by injection e with e; omega)
        replace oK := oK.kept gg111 (.inr (fun e => by have := own_ge oK _ e; omega))
        replace hG := grown_trans hG gg111
        have z_112 := gg111.size
        clear gg111
        clear rl
        obtain ⟨j, rfl⟩ : ∃ j : Nat, x7 = j := ⟨x7.toNat, by omega⟩
        have hj8 : j < 8 := by omega
        have hji : (j : Int) < 8 := by omega
        clear x7_0 x7_1
        have oR := Ow.of_own Iq.cells_len oK rfl HL.out.symm
        obtain ⟨A, n, c, rfl, H, hnc, hm⟩ := oR.rd.form
        have hn8 : n = 8 := by rw [H.out, HL.out]
        subst hn8
        obtain ⟨b, off, t0, rfl, HT, hb1, hb2, f0, f1, f2, f3, f4⟩ := Iq.get oR.rd hj8 (Below.refl w111.heap.size w111) (Nat.le_refl _)
        have hfz := oR.frozen (by omega)
        clear H
        go_wp2_with fail
        generalize hwz : World.setCell (World.setCell (World.setCell (World.setCell (World.setCell _ _ _) _ _) _ _) _ _) _ _ = wz_
        obtain rfl : wz_ = setL w111 b (off + j * 5) [.bool false, .bool false, .bool false, .int .i64 x8, .int .i64 x9] := hwz.symm
        clear hwz
        have oS := oR.upd Iq.cells_len (by omega) HT.out (t' := ⟨false, false, false, x8, x9⟩) (Upd.of_setL (ys := [.bool false, .bool false, .bool false, .int .i64 x8, .int .i64 x9]) 0 rfl rfl (by simp))
        have gS := setL_grown [.bool false, .bool false, .bool false, .int .i64 x8, .int .i64 x9] w111 b (off + j * 5)
        have zS := setL_size [.bool false, .bool false, .bool false, .int .i64 x8, .int .i64 x9] w111 b (off + j * 5)
        replace hG := grown_new hG gS (fun q e => by injection e with e; omega)
        replace kk111 := kk111.other gS (by omega)
        go_ret
        exact ⟨_, _, rfl, by rw [List.length_set, HL.out]; omega, oS.mono (by omega) (by omega), hG, kk111.mono (by omega)⟩
      · have oR := Ow.of_own Iq.cells_len oK rfl HL.out.symm
        go_wp2_with fail
        go_ret
        exact ⟨_, _, rfl, by rw [HL.out]; omega, oR, hG, kk101.mono (by omega)⟩
theorem irq_any (g k : Nat) (cv : Value) (l : List UInt8) (w : World) {lo hi : Nat} (h : Rd By.cells 1 w lo hi cv l) (hh : hi ≤ w.heap.size) (hg : g < lo ∨ hi ≤ g) (hc : Cur w g cv k) (hk : k ≤ 100000) :
    Calls Try.prog 99 #[.pointer (some ⟨g, 0, none⟩)] w fun e w' => ∃ x : Int, e = .returned (.int .i64 x) ∧ w.grownBy w' (some g) ∧ Cur w' g cv (k + 10) := by
  have hgl := hc.lt
  have hG := World.grownBy.refl w (some g)
  go_enter Try.func99, Try.ntmps99
  go_wp2_with fail
  refine (one_any g _ _ l 20 w h (by omega) hg hc (by omega) (by omega)).mono ?_; rintro q_ w1 ⟨b1, rfl, gg1, kk1⟩
  clear hc
  replace h := h.grown gg1 (by omega) (fun q e => by injection e with e; omega)
  replace hG := grown_trans hG gg1
  have z_2 := gg1.size
  clear gg1
  cases b1
  · go_wp2_with fail
    refine (pick_any g _ _ l 8 w1 h (by omega) hg kk1 (by omega) (by omega)).mono ?_; rintro q_ w3 ⟨x2, rfl, x2_0, x2_1, gg3, kk3⟩
    clear kk1
    replace h := h.grown gg3 (by omega) (fun q e => by injection e with e; omega)
    replace hG := grown_trans hG gg3
    have z_4 := gg3.size
    clear gg3
    go_wp2_with fail
    go_ret
    exact ⟨_, rfl, hG, kk3.mono (by omega)⟩
  · go_wp2_with fail
    have rl := lit_ints w1 [-1, 8] #[.int .i64 (-1), .int .i64 8] 2 rfl rfl (by decide)
    have ga3 := grown_alloc w1 (.cells #[.int .i64 (-1), .int .i64 8] 3)
    have za3 : (w1.alloc (.cells #[.int .i64 (-1), .int .i64 8] 3)).heap.size = w1.heap.size + 1 := by simp
    replace kk1 := kk1.grown0 ga3
    replace h := h.grown ga3 (by omega) (fun q e => by cases e)
    replace hG := grown_trans hG (grown_weaken ga3)
    have z_4 := ga3.size
    clear ga3
    generalize w1.alloc _ = w3 at *
    generalize hgz4 : w1.heap.size = gz4 at *
    clear hgz4
    refine (among_any g _ _ _ l [-1, 8] w3 h (by omega) hg rl (by omega) (by omega) (by decide) (by decide) kk1 (by omega)).mono ?_; rintro q_ w5 ⟨x2, rfl, gg5, kk5⟩
    clear kk1
    replace h := h.grown gg5 (by omega) (fun q e => by injection e with e; omega)
    replace hG := grown_trans hG gg5
    have z_6 := gg5.size
    clear gg5
    clear rl
    go_wp2_with fail
    go_ret
    exact ⟨_, rfl, hG, kk5.mono (by omega)⟩
theorem prio_any (g k : Nat) (cv : Value) (l : List UInt8) (w : World) {lo hi : Nat} (h : Rd By.cells 1 w lo hi cv l) (hh : hi ≤ w.heap.size) (hg : g < lo ∨ hi ≤ g) (hc : Cur w g cv k) (hk : k ≤ 100000) :
    Calls Try.prog 109 #[.pointer (some ⟨g, 0, none⟩)] w fun e w' => ∃ x : Int, e = .returned (.int .i64 x) ∧ w.grownBy w' (some g) ∧ Cur w' g cv (k + 10) := by
  have hgl := hc.lt
  have hG := World.grownBy.refl w (some g)
  go_enter Try.func109, Try.ntmps109
  go_wp2_with fail
  have rl := lit_ints w [0, 1, 2, 3, 5, 8, 15, 4, 4, 7, 12, 16, -1, 6] #[.int .i64 0, .int .i64 1, .int .i64 2, .int .i64 3, .int .i64 5, .int .i64 8, .int .i64 15, .int .i64 4, .int .i64 4, .int .i64 7, .int .i64 12, .int .i64 16, .int .i64 (-1), .int .i64 6] 14 rfl rfl (by decide)
  have ga1 := grown_alloc w (.cells #[.int .i64 0, .int .i64 1, .int .i64 2, .int .i64 3, .int .i64 5, .int .i64 8, .int .i64 15, .int .i64 4, .int .i64 4, .int .i64 7, .int .i64 12, .int .i64 16, .int .i64 (-1), .int .i64 6] 3)
  have za1 : (w.alloc (.cells #[.int .i64 0, .int .i64 1, .int .i64 2, .int .i64 3, .int .i64 5, .int .i64 8, .int .i64 15, .int .i64 4, .int .i64 4, .int .i64 7, .int .i64 12, .int .i64 16, .int .i64 (-1), .int .i64 6] 3)).heap.size = w.heap.size + 1 := by simp
  replace hc := hc.grown0 ga1
  replace h := h.grown ga1 (by omega) (fun q e => by cases e)
  replace hG := grown_trans hG (grown_weaken ga1)
  have z_2 := ga1.size
  clear ga1
  generalize w.alloc _ = w1 at *
  refine (among_any g _ _ _ l [0, 1, 2, 3, 5, 8, 15, 4, 4, 7, 12, 16, -1, 6] w1 h (by omega) hg rl (by omega) (by omega) (by decide) (by decide) hc (by omega)).mono ?_; rintro q_ w3 ⟨x2, rfl, gg3, kk3⟩
  clear hc
  replace h := h.grown gg3 (by omega) (fun q e => by injection e with e; omega)
  replace hG := grown_trans hG gg3
  have z_4 := gg3.size
  clear gg3
  clear rl
  go_wp2_with fail
  go_ret
  exact ⟨_, rfl, hG, kk3.mono (by omega)⟩
theorem cpu_any (g k : Nat) (cv : Value) (l : List UInt8) (w : World) {lo hi : Nat} (h : Rd By.cells 1 w lo hi cv l) (hh : hi ≤ w.heap.size) (hg : g < lo ∨ hi ≤ g) (hc : Cur w g cv k) (hk : k ≤ 100000) :
    Calls Try.prog 110 #[.pointer (some ⟨g, 0, none⟩)] w fun e w' => ∃ x : Int, e = .returned (.int .i64 x) ∧ w.grownBy w' (some g) ∧ Cur w' g cv (k + 10) := by
  have hgl := hc.lt
  have hG := World.grownBy.refl w (some g)
  go_enter Try.func110, Try.ntmps110
  go_wp2_with fail
  have rl := lit_ints w [0, 0, 0, 1, 1, 2, 3, 0, 1, -1, 4] #[.int .i64 0, .int .i64 0, .int .i64 0, .int .i64 1, .int .i64 1, .int .i64 2, .int .i64 3, .int .i64 0, .int .i64 1, .int .i64 (-1), .int .i64 4] 11 rfl rfl (by decide)
  have ga1 := grown_alloc w (.cells #[.int .i64 0, .int .i64 0, .int .i64 0, .int .i64 1, .int .i64 1, .int .i64 2, .int .i64 3, .int .i64 0, .int .i64 1, .int .i64 (-1), .int .i64 4] 3)
  have za1 : (w.alloc (.cells #[.int .i64 0, .int .i64 0, .int .i64 0, .int .i64 1, .int .i64 1, .int .i64 2, .int .i64 3, .int .i64 0, .int .i64 1, .int .i64 (-1), .int .i64 4] 3)).heap.size = w.heap.size + 1 := by simp
  replace hc := hc.grown0 ga1
  replace h := h.grown ga1 (by omega) (fun q e => by cases e)
  replace hG := grown_trans hG (grown_weaken ga1)
  have z_2 := ga1.size
  clear ga1
  generalize w.alloc _ = w1 at *
  refine (among_any g _ _ _ l [0, 0, 0, 1, 1, 2, 3, 0, 1, -1, 4] w1 h (by omega) hg rl (by omega) (by omega) (by decide) (by decide) hc (by omega)).mono ?_; rintro q_ w3 ⟨x2, rfl, gg3, kk3⟩
  clear hc
  replace h := h.grown gg3 (by omega) (fun q e => by injection e with e; omega)
  replace hG := grown_trans hG gg3
  have z_4 := gg3.size
  clear gg3
  clear rl
  go_wp2_with fail
  go_ret
  exact ⟨_, rfl, hG, kk3.mono (by omega)⟩

end Go.Proofs.Ytgnalbfepkcokaa
