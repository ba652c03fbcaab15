/- The reference's draws of lines: they return something, in new memory. Condition: at most 100000 reads before. -/
import Derived.Test.YtgnalbfepkcokaaCur
import Derived.Test.YtgnalbfepkcokaaTyLine
namespace Go.Proofs.Ytgnalbfepkcokaa
open Go.RowKit Go.ChangeShapes Go.WideShapes Go.Deep

set_option maxRecDepth 8000 in
set_option maxHeartbeats 4000000 in
theorem line_any (g k : Nat) (cv : Value) (l : List UInt8) (w : World) {lo hi : Nat} (h : Rd By.cells 1 w lo hi cv l) (hh : hi ≤ w.heap.size) (hg : g < lo ∨ hi ≤ g) (hc : Cur w g cv k) (hk : k ≤ 200000) :
    Calls Try.prog 66 #[.pointer (some ⟨g, 0, none⟩)] w fun e w' => ∃ x : Ln, e = .returned x.val ∧ w.grownBy w' (some g) ∧ Cur w' g cv (k + 30) := by
  have hgl := hc.lt
  have hG := World.grownBy.refl w (some g)
  go_enter Try.func66, Try.ntmps66
  have bR := Box.new w #[.int .i64 0, .int .i64 0, .bool false, .bool false] 25 rfl
  have ga0 := grown_alloc w (.cells #[.int .i64 0, .int .i64 0, .bool false, .bool false] 25)
  have za0 : (w.alloc (.cells #[.int .i64 0, .int .i64 0, .bool false, .bool false] 25)).heap.size = w.heap.size + 1 := by simp
  go_wp2_with fail
  replace hc := hc.grown0 ga0
  replace h := h.grown ga0 (by omega) (fun q e => by cases e)
  replace hG := grown_trans hG (grown_weaken ga0)
  have z_1 := ga0.size
  clear ga0
  generalize w.alloc _ = wA at *
  refine (pick_any g _ _ l 2 wA h (by omega) hg hc (by omega) (by omega)).mono ?_; rintro q_ w2 ⟨x1, rfl, x1_0, x1_1, gg2, kk2⟩
  clear hc
  replace h := h.grown gg2 (by omega) (fun q e => by injection e with e; omega)
  replace bR := bR.keep (gg2.block _ bR.lt (fun e => by injection e with e; omega))
  replace hG := grown_trans hG gg2
  have z_3 := gg2.size
  clear gg2
  clear x1_0 x1_1
  go_wp2_with fail
  have rl := lit_ints w2 [0, 1, 1, 3, 7] #[.int .i64 0, .int .i64 1, .int .i64 1, .int .i64 3, .int .i64 7] 5 rfl rfl (by decide)
  have ga4 := grown_alloc w2 (.cells #[.int .i64 0, .int .i64 1, .int .i64 1, .int .i64 3, .int .i64 7] 3)
  have za4 : (w2.alloc (.cells #[.int .i64 0, .int .i64 1, .int .i64 1, .int .i64 3, .int .i64 7] 3)).heap.size = w2.heap.size + 1 := by simp
  replace kk2 := kk2.grown0 ga4
  replace h := h.grown ga4 (by omega) (fun q e => by cases e)
  replace bR := bR.keep (ga4.block _ bR.lt (fun e => by cases e))
  replace hG := grown_trans hG (grown_weaken ga4)
  have z_5 := ga4.size
  clear ga4
  generalize w2.alloc _ = w4 at *
  generalize hgz5 : w2.heap.size = gz5 at *
  clear hgz5
  refine (among_any g _ _ _ l [0, 1, 1, 3, 7] w4 h (by omega) hg rl (by omega) (by omega) (by decide) (by decide) kk2 (by omega)).mono ?_; rintro q_ w6 ⟨x2, rfl, gg6, kk6⟩
  clear kk2
  replace h := h.grown gg6 (by omega) (fun q e => by injection e with e; omega)
  replace bR := bR.keep (gg6.block _ bR.lt (fun e => by injection e with e; omega))
  replace hG := grown_trans hG gg6
  have z_7 := gg6.size
  clear gg6
  clear rl
  go_wp2_with fail
  refine (one_any g _ _ l 2 w6 h (by omega) hg kk6 (by omega) (by omega)).mono ?_; rintro q_ w8 ⟨b3, rfl, gg8, kk8⟩
  clear kk6
  replace h := h.grown gg8 (by omega) (fun q e => by injection e with e; omega)
  replace bR := bR.keep (gg8.block _ bR.lt (fun e => by injection e with e; omega))
  replace hG := grown_trans hG gg8
  have z_9 := gg8.size
  clear gg8
  go_wp2_with fail
  refine (one_any g _ _ l 2 w8 h (by omega) hg kk8 (by omega) (by omega)).mono ?_; rintro q_ w10 ⟨b4, rfl, gg10, kk10⟩
  clear kk8
  replace h := h.grown gg10 (by omega) (fun q e => by injection e with e; omega)
  replace bR := bR.keep (gg10.block _ bR.lt (fun e => by injection e with e; omega))
  replace hG := grown_trans hG gg10
  have z_11 := gg10.size
  clear gg10
  go_upto_region 2 with fail
  have bX := Box.new w10 #[.int .i64 x1, .int .i64 x2, .bool b3, .bool b4] 25 rfl
  have ga9 := grown_alloc w10 (.cells #[.int .i64 x1, .int .i64 x2, .bool b3, .bool b4] 25)
  have za9 : (w10.alloc (.cells #[.int .i64 x1, .int .i64 x2, .bool b3, .bool b4] 25)).heap.size = w10.heap.size + 1 := by simp
  replace kk10 := kk10.grown0 ga9
  replace h := h.grown ga9 (by omega) (fun q e => by cases e)
  replace bR := bR.keep (ga9.block _ bR.lt (fun e => by cases e))
  replace hG := grown_trans hG (grown_weaken ga9)
  have z_12 := ga9.size
  clear ga9
  generalize w10.alloc _ = wX at *
  generalize hgx : w10.heap.size = gX at *
  clear hgx
  by_cases hk1 : x1 = 1
  · subst hk1
    have bX_0 := bX.cell (j := 0) rfl
    have bX_1 := bX.cell (j := 1) rfl
    have bX_2 := bX.cell (j := 2) rfl
    have bX_3 := bX.cell (j := 3) rfl
    have bX_z := bX.frozen
    have bX_l := bX.lt
    have bR_0 := bR.cell (j := 0) rfl
    have bR_1 := bR.cell (j := 1) rfl
    have bR_2 := bR.cell (j := 2) rfl
    have bR_3 := bR.cell (j := 3) rfl
    have bR_z := bR.frozen
    have bR_l := bR.lt
    go_wp2_with fail
    clear bX_0 bX_1 bX_2 bX_3 bX_z bX_l bR_0 bR_1 bR_2 bR_3 bR_z bR_l
    refine (one_any g _ _ l 40 wX h (by omega) hg kk10 (by omega) (by omega)).mono ?_; rintro q_ w13 ⟨b5, rfl, gg13, kk13⟩
    clear kk10
    replace h := h.grown gg13 (by omega) (fun q e => by injection e with e; omega)
    replace bR := bR.keep (gg13.block _ bR.lt (fun e => by injection e with e; omega))
    replace bX := bX.keep (gg13.block _ bX.lt (fun e => by injection e with e; omega))
    replace hG := grown_trans hG gg13
    have z_14 := gg13.size
    clear gg13
    cases b5
    · have bX_0 := bX.cell (j := 0) rfl
      have bX_1 := bX.cell (j := 1) rfl
      have bX_2 := bX.cell (j := 2) rfl
      have bX_3 := bX.cell (j := 3) rfl
      have bX_z := bX.frozen
      have bX_l := bX.lt
      have bR_0 := bR.cell (j := 0) rfl
      have bR_1 := bR.cell (j := 1) rfl
      have bR_2 := bR.cell (j := 2) rfl
      have bR_3 := bR.cell (j := 3) rfl
      have bR_z := bR.frozen
      have bR_l := bR.lt
      go_upto_region 4 with fail
      clear bX_0 bX_1 bX_2 bX_3 bX_z bX_l bR_0 bR_1 bR_2 bR_3 bR_z bR_l
      generalize hwz : World.setCell _ _ _ = wz_
      obtain rfl : wz_ = setL w13 gX 3 [.bool b3] := hwz.symm
      clear hwz
      have gs15 := setL_grown [.bool b3] w13 gX 3
      replace bX := bX.set1 (j := 3) (.bool b3) (by simp)
      replace bR := bR.other (b := gX) (by omega) 3 [.bool b3]
      replace h := h.away (g := gX) (by omega) 3 [.bool b3]
      replace hG := grown_new hG gs15 (fun q e => by injection e with e; omega)
      replace kk13 := kk13.other gs15 (by omega)
      have zs15 := gs15.size
      clear gs15
      generalize setL w13 gX 3 _ = w15 at *
      have bX_0 := bX.cell (j := 0) rfl
      have bX_1 := bX.cell (j := 1) rfl
      have bX_2 := bX.cell (j := 2) rfl
      have bX_3 := bX.cell (j := 3) rfl
      have bX_z := bX.frozen
      have bX_l := bX.lt
      have bR_0 := bR.cell (j := 0) rfl
      have bR_1 := bR.cell (j := 1) rfl
      have bR_2 := bR.cell (j := 2) rfl
      have bR_3 := bR.cell (j := 3) rfl
      have bR_z := bR.frozen
      have bR_l := bR.lt
      go_wp2_with fail
      clear bX_0 bX_1 bX_2 bX_3 bX_z bX_l bR_0 bR_1 bR_2 bR_3 bR_z bR_l
      refine (pick_any g _ _ l 60 w15 h (by omega) hg kk13 (by omega) (by omega)).mono ?_; rintro q_ w16 ⟨x6, rfl, x6_0, x6_1, gg16, kk16⟩
      clear kk13
      replace h := h.grown gg16 (by omega) (fun q e => by injection e with e; omega)
      replace bR := bR.keep (gg16.block _ bR.lt (fun e => by injection e with e; omega))
      replace bX := bX.keep (gg16.block _ bX.lt (fun e => by injection e with e; omega))
      replace hG := grown_trans hG gg16
      have z_17 := gg16.size
      clear gg16
      clear x6_0 x6_1
      by_cases h0 : x6 = 0
      · subst h0
        have bX_0 := bX.cell (j := 0) rfl
        have bX_1 := bX.cell (j := 1) rfl
        have bX_2 := bX.cell (j := 2) rfl
        have bX_3 := bX.cell (j := 3) rfl
        have bX_z := bX.frozen
        have bX_l := bX.lt
        have bR_0 := bR.cell (j := 0) rfl
        have bR_1 := bR.cell (j := 1) rfl
        have bR_2 := bR.cell (j := 2) rfl
        have bR_3 := bR.cell (j := 3) rfl
        have bR_z := bR.frozen
        have bR_l := bR.lt
        go_wp2_with fail
        clear bX_0 bX_1 bX_2 bX_3 bX_z bX_l bR_0 bR_1 bR_2 bR_3 bR_z bR_l
        have rl := lit_ints w16 [-1, 2] #[.int .i64 (-1), .int .i64 2] 2 rfl rfl (by decide)
        have ga18 := grown_alloc w16 (.cells #[.int .i64 (-1), .int .i64 2] 3)
        have za18 : (w16.alloc (.cells #[.int .i64 (-1), .int .i64 2] 3)).heap.size = w16.heap.size + 1 := by simp
        replace kk16 := kk16.grown0 ga18
        replace h := h.grown ga18 (by omega) (fun q e => by cases e)
        replace bR := bR.keep (ga18.block _ bR.lt (fun e => by cases e))
        replace bX := bX.keep (ga18.block _ bX.lt (fun e => by cases e))
        replace hG := grown_trans hG (grown_weaken ga18)
        have z_19 := ga18.size
        clear ga18
        generalize w16.alloc _ = w18 at *
        generalize hgz19 : w16.heap.size = gz19 at *
        clear hgz19
        refine (among_any g _ _ _ l [-1, 2] w18 h (by omega) hg rl (by omega) (by omega) (by decide) (by decide) kk16 (by omega)).mono ?_; rintro q_ w20 ⟨x7, rfl, gg20, kk20⟩
        clear kk16
        replace h := h.grown gg20 (by omega) (fun q e => by injection e with e; omega)
        replace bR := bR.keep (gg20.block _ bR.lt (fun e => by injection e with e; omega))
        replace bX := bX.keep (gg20.block _ bX.lt (fun e => by injection e with e; omega))
        replace hG := grown_trans hG gg20
        have z_21 := gg20.size
        clear gg20
        clear rl
        have bX_0 := bX.cell (j := 0) rfl
        have bX_1 := bX.cell (j := 1) rfl
        have bX_2 := bX.cell (j := 2) rfl
        have bX_3 := bX.cell (j := 3) rfl
        have bX_z := bX.frozen
        have bX_l := bX.lt
        have bR_0 := bR.cell (j := 0) rfl
        have bR_1 := bR.cell (j := 1) rfl
        have bR_2 := bR.cell (j := 2) rfl
        have bR_3 := bR.cell (j := 3) rfl
        have bR_z := bR.frozen
        have bR_l := bR.lt
        go_upto_region 9 with fail
        clear bX_0 bX_1 bX_2 bX_3 bX_z bX_l bR_0 bR_1 bR_2 bR_3 bR_z bR_l
        generalize hwz : World.setCell _ _ _ = wz_
        obtain rfl : wz_ = setL w20 gX 0 [.int .i64 x7] := hwz.symm
        clear hwz
        have gs22 := setL_grown [.int .i64 x7] w20 gX 0
        replace bX := bX.set1 (j := 0) (.int .i64 x7) (by simp)
        replace bR := bR.other (b := gX) (by omega) 0 [.int .i64 x7]
        replace h := h.away (g := gX) (by omega) 0 [.int .i64 x7]
        replace hG := grown_new hG gs22 (fun q e => by injection e with e; omega)
        replace kk20 := kk20.other gs22 (by omega)
        have zs22 := gs22.size
        clear gs22
        generalize setL w20 gX 0 _ = w22 at *
        have bX_0 := bX.cell (j := 0) rfl
        have bX_1 := bX.cell (j := 1) rfl
        have bX_2 := bX.cell (j := 2) rfl
        have bX_3 := bX.cell (j := 3) rfl
        have bX_z := bX.frozen
        have bX_l := bX.lt
        have bR_0 := bR.cell (j := 0) rfl
        have bR_1 := bR.cell (j := 1) rfl
        have bR_2 := bR.cell (j := 2) rfl
        have bR_3 := bR.cell (j := 3) rfl
        have bR_z := bR.frozen
        have bR_l := bR.lt
        go_wp2_with fail
        clear bX_0 bX_1 bX_2 bX_3 bX_z bX_l bR_0 bR_1 bR_2 bR_3 bR_z bR_l
        generalize hwz : World.setCell (World.setCell (World.setCell (World.setCell _ _ _) _ _) _ _) _ _ = wz_
        obtain rfl : wz_ = setL w22 w.heap.size 0 [.int .i64 x7, .int .i64 x2, .bool b3, .bool b3] := hwz.symm
        clear hwz
        have gs := setL_grown [.int .i64 x7, .int .i64 x2, .bool b3, .bool b3] w22 w.heap.size 0
        replace bR := bR.setAll [.int .i64 x7, .int .i64 x2, .bool b3, .bool b3] rfl
        replace hG := grown_new hG gs (fun q e => by injection e with e; omega)
        replace kk20 := kk20.other gs (by omega)
        clear gs
        generalize setL w22 _ 0 _ = wR at *
        have u0_ := bR.cell (j := 0) rfl
        have u1_ := bR.cell (j := 1) rfl
        have u2_ := bR.cell (j := 2) rfl
        have u3_ := bR.cell (j := 3) rfl
        refine bodyPost_ret (by simp only [results, Try.results66]; simp [go_sem, u0_, u1_, u2_, u3_]; rfl) rfl ?_
        exact ⟨⟨x7, x2, b3, b3⟩, rfl, hG, kk20.mono (by omega)⟩
      by_cases h1 : x6 = 1
      · subst h1
        have bX_0 := bX.cell (j := 0) rfl
        have bX_1 := bX.cell (j := 1) rfl
        have bX_2 := bX.cell (j := 2) rfl
        have bX_3 := bX.cell (j := 3) rfl
        have bX_z := bX.frozen
        have bX_l := bX.lt
        have bR_0 := bR.cell (j := 0) rfl
        have bR_1 := bR.cell (j := 1) rfl
        have bR_2 := bR.cell (j := 2) rfl
        have bR_3 := bR.cell (j := 3) rfl
        have bR_z := bR.frozen
        have bR_l := bR.lt
        go_wp2_with fail
        clear bX_0 bX_1 bX_2 bX_3 bX_z bX_l bR_0 bR_1 bR_2 bR_3 bR_z bR_l
        have rl := lit_ints w16 [-1, 8] #[.int .i64 (-1), .int .i64 8] 2 rfl rfl (by decide)
        have ga18 := grown_alloc w16 (.cells #[.int .i64 (-1), .int .i64 8] 3)
        have za18 : (w16.alloc (.cells #[.int .i64 (-1), .int .i64 8] 3)).heap.size = w16.heap.size + 1 := by simp
        replace kk16 := kk16.grown0 ga18
        replace h := h.grown ga18 (by omega) (fun q e => by cases e)
        replace bR := bR.keep (ga18.block _ bR.lt (fun e => by cases e))
        replace bX := bX.keep (ga18.block _ bX.lt (fun e => by cases e))
        replace hG := grown_trans hG (grown_weaken ga18)
        have z_19 := ga18.size
        clear ga18
        generalize w16.alloc _ = w18 at *
        generalize hgz19 : w16.heap.size = gz19 at *
        clear hgz19
        refine (among_any g _ _ _ l [-1, 8] w18 h (by omega) hg rl (by omega) (by omega) (by decide) (by decide) kk16 (by omega)).mono ?_; rintro q_ w20 ⟨x7, rfl, gg20, kk20⟩
        clear kk16
        replace h := h.grown gg20 (by omega) (fun q e => by injection e with e; omega)
        replace bR := bR.keep (gg20.block _ bR.lt (fun e => by injection e with e; omega))
        replace bX := bX.keep (gg20.block _ bX.lt (fun e => by injection e with e; omega))
        replace hG := grown_trans hG gg20
        have z_21 := gg20.size
        clear gg20
        clear rl
        have bX_0 := bX.cell (j := 0) rfl
        have bX_1 := bX.cell (j := 1) rfl
        have bX_2 := bX.cell (j := 2) rfl
        have bX_3 := bX.cell (j := 3) rfl
        have bX_z := bX.frozen
        have bX_l := bX.lt
        have bR_0 := bR.cell (j := 0) rfl
        have bR_1 := bR.cell (j := 1) rfl
        have bR_2 := bR.cell (j := 2) rfl
        have bR_3 := bR.cell (j := 3) rfl
        have bR_z := bR.frozen
        have bR_l := bR.lt
        go_upto_region 9 with fail
        clear bX_0 bX_1 bX_2 bX_3 bX_z bX_l bR_0 bR_1 bR_2 bR_3 bR_z bR_l
        generalize hwz : World.setCell _ _ _ = wz_
        obtain rfl : wz_ = setL w20 gX 1 [.int .i64 x7] := hwz.symm
        clear hwz
        have gs22 := setL_grown [.int .i64 x7] w20 gX 1
        replace bX := bX.set1 (j := 1) (.int .i64 x7) (by simp)
        replace bR := bR.other (b := gX) (by omega) 1 [.int .i64 x7]
        replace h := h.away (g := gX) (by omega) 1 [.int .i64 x7]
        replace hG := grown_new hG gs22 (fun q e => by injection e with e; omega)
        replace kk20 := kk20.other gs22 (by omega)
        have zs22 := gs22.size
        clear gs22
        generalize setL w20 gX 1 _ = w22 at *
        have bX_0 := bX.cell (j := 0) rfl
        have bX_1 := bX.cell (j := 1) rfl
        have bX_2 := bX.cell (j := 2) rfl
        have bX_3 := bX.cell (j := 3) rfl
        have bX_z := bX.frozen
        have bX_l := bX.lt
        have bR_0 := bR.cell (j := 0) rfl
        have bR_1 := bR.cell (j := 1) rfl
        have bR_2 := bR.cell (j := 2) rfl
        have bR_3 := bR.cell (j := 3) rfl
        have bR_z := bR.frozen
        have bR_l := bR.lt
        go_wp2_with fail
        clear bX_0 bX_1 bX_2 bX_3 bX_z bX_l bR_0 bR_1 bR_2 bR_3 bR_z bR_l
        generalize hwz : World.setCell (World.setCell (World.setCell (World.setCell _ _ _) _ _) _ _) _ _ = wz_
        obtain rfl : wz_ = setL w22 w.heap.size 0 [.int .i64 1, .int .i64 x7, .bool b3, .bool b3] := hwz.symm
        clear hwz
        have gs := setL_grown [.int .i64 1, .int .i64 x7, .bool b3, .bool b3] w22 w.heap.size 0
        replace bR := bR.setAll [.int .i64 1, .int .i64 x7, .bool b3, .bool b3] rfl
        replace hG := grown_new hG gs (fun q e => by injection e with e; omega)
        replace kk20 := kk20.other gs (by omega)
        clear gs
        generalize setL w22 _ 0 _ = wR at *
        have u0_ := bR.cell (j := 0) rfl
        have u1_ := bR.cell (j := 1) rfl
        have u2_ := bR.cell (j := 2) rfl
        have u3_ := bR.cell (j := 3) rfl
        refine bodyPost_ret (by simp only [results, Try.results66]; simp [go_sem, u0_, u1_, u2_, u3_]; rfl) rfl ?_
        exact ⟨⟨1, x7, b3, b3⟩, rfl, hG, kk20.mono (by omega)⟩
      · have bX_0 := bX.cell (j := 0) rfl
        have bX_1 := bX.cell (j := 1) rfl
        have bX_2 := bX.cell (j := 2) rfl
        have bX_3 := bX.cell (j := 3) rfl
        have bX_z := bX.frozen
        have bX_l := bX.lt
        have bR_0 := bR.cell (j := 0) rfl
        have bR_1 := bR.cell (j := 1) rfl
        have bR_2 := bR.cell (j := 2) rfl
        have bR_3 := bR.cell (j := 3) rfl
        have bR_z := bR.frozen
        have bR_l := bR.lt
        go_wp2_with fail
        clear bX_0 bX_1 bX_2 bX_3 bX_z bX_l bR_0 bR_1 bR_2 bR_3 bR_z bR_l
        generalize hwz : World.setCell (World.setCell (World.setCell (World.setCell _ _ _) _ _) _ _) _ _ = wz_
        obtain rfl : wz_ = setL w16 w.heap.size 0 [.int .i64 1, .int .i64 x2, .bool b3, .bool b3] := hwz.symm
        clear hwz
        have gs := setL_grown [.int .i64 1, .int .i64 x2, .bool b3, .bool b3] w16 w.heap.size 0
        replace bR := bR.setAll [.int .i64 1, .int .i64 x2, .bool b3, .bool b3] rfl
        replace hG := grown_new hG gs (fun q e => by injection e with e; omega)
        replace kk16 := kk16.other gs (by omega)
        clear gs
        generalize setL w16 _ 0 _ = wR at *
        have u0_ := bR.cell (j := 0) rfl
        have u1_ := bR.cell (j := 1) rfl
        have u2_ := bR.cell (j := 2) rfl
        have u3_ := bR.cell (j := 3) rfl
        refine bodyPost_ret (by simp only [results, Try.results66]; simp [go_sem, u0_, u1_, u2_, u3_]; rfl) rfl ?_
        exact ⟨⟨1, x2, b3, b3⟩, rfl, hG, kk16.mono (by omega)⟩
    · have bX_0 := bX.cell (j := 0) rfl
      have bX_1 := bX.cell (j := 1) rfl
      have bX_2 := bX.cell (j := 2) rfl
      have bX_3 := bX.cell (j := 3) rfl
      have bX_z := bX.frozen
      have bX_l := bX.lt
      have bR_0 := bR.cell (j := 0) rfl
      have bR_1 := bR.cell (j := 1) rfl
      have bR_2 := bR.cell (j := 2) rfl
      have bR_3 := bR.cell (j := 3) rfl
      have bR_z := bR.frozen
      have bR_l := bR.lt
      go_wp2_with fail
      clear bX_0 bX_1 bX_2 bX_3 bX_z bX_l bR_0 bR_1 bR_2 bR_3 bR_z bR_l
      refine (pick_any g _ _ l 60 w13 h (by omega) hg kk13 (by omega) (by omega)).mono ?_; rintro q_ w15 ⟨x6, rfl, x6_0, x6_1, gg15, kk15⟩
      clear kk13
      replace h := h.grown gg15 (by omega) (fun q e => by injection e with e; omega)
      replace bR := bR.keep (gg15.block _ bR.lt (fun e => by injection e with e; omega))
      replace bX := bX.keep (gg15.block _ bX.lt (fun e => by injection e with e; omega))
      replace hG := grown_trans hG gg15
      have z_16 := gg15.size
      clear gg15
      clear x6_0 x6_1
      by_cases h0 : x6 = 0
      · subst h0
        have bX_0 := bX.cell (j := 0) rfl
        have bX_1 := bX.cell (j := 1) rfl
        have bX_2 := bX.cell (j := 2) rfl
        have bX_3 := bX.cell (j := 3) rfl
        have bX_z := bX.frozen
        have bX_l := bX.lt
        have bR_0 := bR.cell (j := 0) rfl
        have bR_1 := bR.cell (j := 1) rfl
        have bR_2 := bR.cell (j := 2) rfl
        have bR_3 := bR.cell (j := 3) rfl
        have bR_z := bR.frozen
        have bR_l := bR.lt
        go_wp2_with fail
        clear bX_0 bX_1 bX_2 bX_3 bX_z bX_l bR_0 bR_1 bR_2 bR_3 bR_z bR_l
        have rl := lit_ints w15 [-1, 2] #[.int .i64 (-1), .int .i64 2] 2 rfl rfl (by decide)
        have ga17 := grown_alloc w15 (.cells #[.int .i64 (-1), .int .i64 2] 3)
        have za17 : (w15.alloc (.cells #[.int .i64 (-1), .int .i64 2] 3)).heap.size = w15.heap.size + 1 := by simp
        replace kk15 := kk15.grown0 ga17
        replace h := h.grown ga17 (by omega) (fun q e => by cases e)
        replace bR := bR.keep (ga17.block _ bR.lt (fun e => by cases e))
        replace bX := bX.keep (ga17.block _ bX.lt (fun e => by cases e))
        replace hG := grown_trans hG (grown_weaken ga17)
        have z_18 := ga17.size
        clear ga17
        generalize w15.alloc _ = w17 at *
        generalize hgz18 : w15.heap.size = gz18 at *
        clear hgz18
        refine (among_any g _ _ _ l [-1, 2] w17 h (by omega) hg rl (by omega) (by omega) (by decide) (by decide) kk15 (by omega)).mono ?_; rintro q_ w19 ⟨x7, rfl, gg19, kk19⟩
        clear kk15
        replace h := h.grown gg19 (by omega) (fun q e => by injection e with e; omega)
        replace bR := bR.keep (gg19.block _ bR.lt (fun e => by injection e with e; omega))
        replace bX := bX.keep (gg19.block _ bX.lt (fun e => by injection e with e; omega))
        replace hG := grown_trans hG gg19
        have z_20 := gg19.size
        clear gg19
        clear rl
        have bX_0 := bX.cell (j := 0) rfl
        have bX_1 := bX.cell (j := 1) rfl
        have bX_2 := bX.cell (j := 2) rfl
        have bX_3 := bX.cell (j := 3) rfl
        have bX_z := bX.frozen
        have bX_l := bX.lt
        have bR_0 := bR.cell (j := 0) rfl
        have bR_1 := bR.cell (j := 1) rfl
        have bR_2 := bR.cell (j := 2) rfl
        have bR_3 := bR.cell (j := 3) rfl
        have bR_z := bR.frozen
        have bR_l := bR.lt
        go_upto_region 9 with fail
        clear bX_0 bX_1 bX_2 bX_3 bX_z bX_l bR_0 bR_1 bR_2 bR_3 bR_z bR_l
        generalize hwz : World.setCell _ _ _ = wz_
        obtain rfl : wz_ = setL w19 gX 0 [.int .i64 x7] := hwz.symm
        clear hwz
        have gs21 := setL_grown [.int .i64 x7] w19 gX 0
        replace bX := bX.set1 (j := 0) (.int .i64 x7) (by simp)
        replace bR := bR.other (b := gX) (by omega) 0 [.int .i64 x7]
        replace h := h.away (g := gX) (by omega) 0 [.int .i64 x7]
        replace hG := grown_new hG gs21 (fun q e => by injection e with e; omega)
        replace kk19 := kk19.other gs21 (by omega)
        have zs21 := gs21.size
        clear gs21
        generalize setL w19 gX 0 _ = w21 at *
        have bX_0 := bX.cell (j := 0) rfl
        have bX_1 := bX.cell (j := 1) rfl
        have bX_2 := bX.cell (j := 2) rfl
        have bX_3 := bX.cell (j := 3) rfl
        have bX_z := bX.frozen
        have bX_l := bX.lt
        have bR_0 := bR.cell (j := 0) rfl
        have bR_1 := bR.cell (j := 1) rfl
        have bR_2 := bR.cell (j := 2) rfl
        have bR_3 := bR.cell (j := 3) rfl
        have bR_z := bR.frozen
        have bR_l := bR.lt
        go_wp2_with fail
        clear bX_0 bX_1 bX_2 bX_3 bX_z bX_l bR_0 bR_1 bR_2 bR_3 bR_z bR_l
        generalize hwz : World.setCell (World.setCell (World.setCell (World.setCell _ _ _) _ _) _ _) _ _ = wz_
        obtain rfl : wz_ = setL w21 w.heap.size 0 [.int .i64 x7, .int .i64 x2, .bool b3, .bool b4] := hwz.symm
        clear hwz
        have gs := setL_grown [.int .i64 x7, .int .i64 x2, .bool b3, .bool b4] w21 w.heap.size 0
        replace bR := bR.setAll [.int .i64 x7, .int .i64 x2, .bool b3, .bool b4] rfl
        replace hG := grown_new hG gs (fun q e => by injection e with e; omega)
        replace kk19 := kk19.other gs (by omega)
        clear gs
        generalize setL w21 _ 0 _ = wR at *
        have u0_ := bR.cell (j := 0) rfl
        have u1_ := bR.cell (j := 1) rfl
        have u2_ := bR.cell (j := 2) rfl
        have u3_ := bR.cell (j := 3) rfl
        refine bodyPost_ret (by simp only [results, Try.results66]; simp [go_sem, u0_, u1_, u2_, u3_]; rfl) rfl ?_
        exact ⟨⟨x7, x2, b3, b4⟩, rfl, hG, kk19.mono (by omega)⟩
      by_cases h1 : x6 = 1
      · subst h1
        have bX_0 := bX.cell (j := 0) rfl
        have bX_1 := bX.cell (j := 1) rfl
        have bX_2 := bX.cell (j := 2) rfl
        have bX_3 := bX.cell (j := 3) rfl
        have bX_z := bX.frozen
        have bX_l := bX.lt
        have bR_0 := bR.cell (j := 0) rfl
        have bR_1 := bR.cell (j := 1) rfl
        have bR_2 := bR.cell (j := 2) rfl
        have bR_3 := bR.cell (j := 3) rfl
        have bR_z := bR.frozen
        have bR_l := bR.lt
        go_wp2_with fail
        clear bX_0 bX_1 bX_2 bX_3 bX_z bX_l bR_0 bR_1 bR_2 bR_3 bR_z bR_l
        have rl := lit_ints w15 [-1, 8] #[.int .i64 (-1), .int .i64 8] 2 rfl rfl (by decide)
        have ga17 := grown_alloc w15 (.cells #[.int .i64 (-1), .int .i64 8] 3)
        have za17 : (w15.alloc (.cells #[.int .i64 (-1), .int .i64 8] 3)).heap.size = w15.heap.size + 1 := by simp
        replace kk15 := kk15.grown0 ga17
        replace h := h.grown ga17 (by omega) (fun q e => by cases e)
        replace bR := bR.keep (ga17.block _ bR.lt (fun e => by cases e))
        replace bX := bX.keep (ga17.block _ bX.lt (fun e => by cases e))
        replace hG := grown_trans hG (grown_weaken ga17)
        have z_18 := ga17.size
        clear ga17
        generalize w15.alloc _ = w17 at *
        generalize hgz18 : w15.heap.size = gz18 at *
        clear hgz18
        refine (among_any g _ _ _ l [-1, 8] w17 h (by omega) hg rl (by omega) (by omega) (by decide) (by decide) kk15 (by omega)).mono ?_; rintro q_ w19 ⟨x7, rfl, gg19, kk19⟩
        clear kk15
        replace h := h.grown gg19 (by omega) (fun q e => by injection e with e; omega)
        replace bR := bR.keep (gg19.block _ bR.lt (fun e => by injection e with e; omega))
        replace bX := bX.keep (gg19.block _ bX.lt (fun e => by injection e with e; omega))
        replace hG := grown_trans hG gg19
        have z_20 := gg19.size
        clear gg19
        clear rl
        have bX_0 := bX.cell (j := 0) rfl
        have bX_1 := bX.cell (j := 1) rfl
        have bX_2 := bX.cell (j := 2) rfl
        have bX_3 := bX.cell (j := 3) rfl
        have bX_z := bX.frozen
        have bX_l := bX.lt
        have bR_0 := bR.cell (j := 0) rfl
        have bR_1 := bR.cell (j := 1) rfl
        have bR_2 := bR.cell (j := 2) rfl
        have bR_3 := bR.cell (j := 3) rfl
        have bR_z := bR.frozen
        have bR_l := bR.lt
        go_upto_region 9 with fail
        clear bX_0 bX_1 bX_2 bX_3 bX_z bX_l bR_0 bR_1 bR_2 bR_3 bR_z bR_l
        generalize hwz : World.setCell _ _ _ = wz_
        obtain rfl : wz_ = setL w19 gX 1 [.int .i64 x7] := hwz.symm
        clear hwz
        have gs21 := setL_grown [.int .i64 x7] w19 gX 1
        replace bX := bX.set1 (j := 1) (.int .i64 x7) (by simp)
        replace bR := bR.other (b := gX) (by omega) 1 [.int .i64 x7]
        replace h := h.away (g := gX) (by omega) 1 [.int .i64 x7]
        replace hG := grown_new hG gs21 (fun q e => by injection e with e; omega)
        replace kk19 := kk19.other gs21 (by omega)
        have zs21 := gs21.size
        clear gs21
        generalize setL w19 gX 1 _ = w21 at *
        have bX_0 := bX.cell (j := 0) rfl
        have bX_1 := bX.cell (j := 1) rfl
        have bX_2 := bX.cell (j := 2) rfl
        have bX_3 := bX.cell (j := 3) rfl
        have bX_z := bX.frozen
        have bX_l := bX.lt
        have bR_0 := bR.cell (j := 0) rfl
        have bR_1 := bR.cell (j := 1) rfl
        have bR_2 := bR.cell (j := 2) rfl
        have bR_3 := bR.cell (j := 3) rfl
        have bR_z := bR.frozen
        have bR_l := bR.lt
        go_wp2_with fail
        clear bX_0 bX_1 bX_2 bX_3 bX_z bX_l bR_0 bR_1 bR_2 bR_3 bR_z bR_l
        generalize hwz : World.setCell (World.setCell (World.setCell (World.setCell _ _ _) _ _) _ _) _ _ = wz_
        obtain rfl : wz_ = setL w21 w.heap.size 0 [.int .i64 1, .int .i64 x7, .bool b3, .bool b4] := hwz.symm
        clear hwz
        have gs := setL_grown [.int .i64 1, .int .i64 x7, .bool b3, .bool b4] w21 w.heap.size 0
        replace bR := bR.setAll [.int .i64 1, .int .i64 x7, .bool b3, .bool b4] rfl
        replace hG := grown_new hG gs (fun q e => by injection e with e; omega)
        replace kk19 := kk19.other gs (by omega)
        clear gs
        generalize setL w21 _ 0 _ = wR at *
        have u0_ := bR.cell (j := 0) rfl
        have u1_ := bR.cell (j := 1) rfl
        have u2_ := bR.cell (j := 2) rfl
        have u3_ := bR.cell (j := 3) rfl
        refine bodyPost_ret (by simp only [results, Try.results66]; simp [go_sem, u0_, u1_, u2_, u3_]; rfl) rfl ?_
        exact ⟨⟨1, x7, b3, b4⟩, rfl, hG, kk19.mono (by omega)⟩
      · have bX_0 := bX.cell (j := 0) rfl
        have bX_1 := bX.cell (j := 1) rfl
        have bX_2 := bX.cell (j := 2) rfl
        have bX_3 := bX.cell (j := 3) rfl
        have bX_z := bX.frozen
        have bX_l := bX.lt
        have bR_0 := bR.cell (j := 0) rfl
        have bR_1 := bR.cell (j := 1) rfl
        have bR_2 := bR.cell (j := 2) rfl
        have bR_3 := bR.cell (j := 3) rfl
        have bR_z := bR.frozen
        have bR_l := bR.lt
        go_wp2_with fail
        clear bX_0 bX_1 bX_2 bX_3 bX_z bX_l bR_0 bR_1 bR_2 bR_3 bR_z bR_l
        generalize hwz : World.setCell (World.setCell (World.setCell (World.setCell _ _ _) _ _) _ _) _ _ = wz_
        obtain rfl : wz_ = setL w15 w.heap.size 0 [.int .i64 1, .int .i64 x2, .bool b3, .bool b4] := hwz.symm
        clear hwz
        have gs := setL_grown [.int .i64 1, .int .i64 x2, .bool b3, .bool b4] w15 w.heap.size 0
        replace bR := bR.setAll [.int .i64 1, .int .i64 x2, .bool b3, .bool b4] rfl
        replace hG := grown_new hG gs (fun q e => by injection e with e; omega)
        replace kk15 := kk15.other gs (by omega)
        clear gs
        generalize setL w15 _ 0 _ = wR at *
        have u0_ := bR.cell (j := 0) rfl
        have u1_ := bR.cell (j := 1) rfl
        have u2_ := bR.cell (j := 2) rfl
        have u3_ := bR.cell (j := 3) rfl
        refine bodyPost_ret (by simp only [results, Try.results66]; simp [go_sem, u0_, u1_, u2_, u3_]; rfl) rfl ?_
        exact ⟨⟨1, x2, b3, b4⟩, rfl, hG, kk15.mono (by omega)⟩
  · have hkd : (x1 == 1) = false := by simpa using hk1
    have bX_0 := bX.cell (j := 0) rfl
    have bX_1 := bX.cell (j := 1) rfl
    have bX_2 := bX.cell (j := 2) rfl
    have bX_3 := bX.cell (j := 3) rfl
    have bX_z := bX.frozen
    have bX_l := bX.lt
    have bR_0 := bR.cell (j := 0) rfl
    have bR_1 := bR.cell (j := 1) rfl
    have bR_2 := bR.cell (j := 2) rfl
    have bR_3 := bR.cell (j := 3) rfl
    have bR_z := bR.frozen
    have bR_l := bR.lt
    go_wp2_with fail
    clear bX_0 bX_1 bX_2 bX_3 bX_z bX_l bR_0 bR_1 bR_2 bR_3 bR_z bR_l
    refine (pick_any g _ _ l 60 wX h (by omega) hg kk10 (by omega) (by omega)).mono ?_; rintro q_ w13 ⟨x6, rfl, x6_0, x6_1, gg13, kk13⟩
    clear kk10
    replace h := h.grown gg13 (by omega) (fun q e => by injection e with e; omega)
    replace bR := bR.keep (gg13.block _ bR.lt (fun e => by injection e with e; omega))
    replace bX := bX.keep (gg13.block _ bX.lt (fun e => by injection e with e; omega))
    replace hG := grown_trans hG gg13
    have z_14 := gg13.size
    clear gg13
    clear x6_0 x6_1
    by_cases h0 : x6 = 0
    · subst h0
      have bX_0 := bX.cell (j := 0) rfl
      have bX_1 := bX.cell (j := 1) rfl
      have bX_2 := bX.cell (j := 2) rfl
      have bX_3 := bX.cell (j := 3) rfl
      have bX_z := bX.frozen
      have bX_l := bX.lt
      have bR_0 := bR.cell (j := 0) rfl
      have bR_1 := bR.cell (j := 1) rfl
      have bR_2 := bR.cell (j := 2) rfl
      have bR_3 := bR.cell (j := 3) rfl
      have bR_z := bR.frozen
      have bR_l := bR.lt
      go_wp2_with fail
      clear bX_0 bX_1 bX_2 bX_3 bX_z bX_l bR_0 bR_1 bR_2 bR_3 bR_z bR_l
      have rl := lit_ints w13 [-1, 2] #[.int .i64 (-1), .int .i64 2] 2 rfl rfl (by decide)
      have ga15 := grown_alloc w13 (.cells #[.int .i64 (-1), .int .i64 2] 3)
      have za15 : (w13.alloc (.cells #[.int .i64 (-1), .int .i64 2] 3)).heap.size = w13.heap.size + 1 := by simp
      replace kk13 := kk13.grown0 ga15
      replace h := h.grown ga15 (by omega) (fun q e => by cases e)
      replace bR := bR.keep (ga15.block _ bR.lt (fun e => by cases e))
      replace bX := bX.keep (ga15.block _ bX.lt (fun e => by cases e))
      replace hG := grown_trans hG (grown_weaken ga15)
      have z_16 := ga15.size
      clear ga15
      generalize w13.alloc _ = w15 at *
      generalize hgz16 : w13.heap.size = gz16 at *
      clear hgz16
      refine (among_any g _ _ _ l [-1, 2] w15 h (by omega) hg rl (by omega) (by omega) (by decide) (by decide) kk13 (by omega)).mono ?_; rintro q_ w17 ⟨x7, rfl, gg17, kk17⟩
      clear kk13
      replace h := h.grown gg17 (by omega) (fun q e => by injection e with e; omega)
      replace bR := bR.keep (gg17.block _ bR.lt (fun e => by injection e with e; omega))
      replace bX := bX.keep (gg17.block _ bX.lt (fun e => by injection e with e; omega))
      replace hG := grown_trans hG gg17
      have z_18 := gg17.size
      clear gg17
      clear rl
      have bX_0 := bX.cell (j := 0) rfl
      have bX_1 := bX.cell (j := 1) rfl
      have bX_2 := bX.cell (j := 2) rfl
      have bX_3 := bX.cell (j := 3) rfl
      have bX_z := bX.frozen
      have bX_l := bX.lt
      have bR_0 := bR.cell (j := 0) rfl
      have bR_1 := bR.cell (j := 1) rfl
      have bR_2 := bR.cell (j := 2) rfl
      have bR_3 := bR.cell (j := 3) rfl
      have bR_z := bR.frozen
      have bR_l := bR.lt
      go_upto_region 9 with fail
      clear bX_0 bX_1 bX_2 bX_3 bX_z bX_l bR_0 bR_1 bR_2 bR_3 bR_z bR_l
      generalize hwz : World.setCell _ _ _ = wz_
      obtain rfl : wz_ = setL w17 gX 0 [.int .i64 x7] := hwz.symm
      clear hwz
      have gs19 := setL_grown [.int .i64 x7] w17 gX 0
      replace bX := bX.set1 (j := 0) (.int .i64 x7) (by simp)
      replace bR := bR.other (b := gX) (by omega) 0 [.int .i64 x7]
      replace h := h.away (g := gX) (by omega) 0 [.int .i64 x7]
      replace hG := grown_new hG gs19 (fun q e => by injection e with e; omega)
      replace kk17 := kk17.other gs19 (by omega)
      have zs19 := gs19.size
      clear gs19
      generalize setL w17 gX 0 _ = w19 at *
      have bX_0 := bX.cell (j := 0) rfl
      have bX_1 := bX.cell (j := 1) rfl
      have bX_2 := bX.cell (j := 2) rfl
      have bX_3 := bX.cell (j := 3) rfl
      have bX_z := bX.frozen
      have bX_l := bX.lt
      have bR_0 := bR.cell (j := 0) rfl
      have bR_1 := bR.cell (j := 1) rfl
      have bR_2 := bR.cell (j := 2) rfl
      have bR_3 := bR.cell (j := 3) rfl
      have bR_z := bR.frozen
      have bR_l := bR.lt
      go_wp2_with fail
      clear bX_0 bX_1 bX_2 bX_3 bX_z bX_l bR_0 bR_1 bR_2 bR_3 bR_z bR_l
      generalize hwz : World.setCell (World.setCell (World.setCell (World.setCell _ _ _) _ _) _ _) _ _ = wz_
      obtain rfl : wz_ = setL w19 w.heap.size 0 [.int .i64 x7, .int .i64 x2, .bool b3, .bool b4] := hwz.symm
      clear hwz
      have gs := setL_grown [.int .i64 x7, .int .i64 x2, .bool b3, .bool b4] w19 w.heap.size 0
      replace bR := bR.setAll [.int .i64 x7, .int .i64 x2, .bool b3, .bool b4] rfl
      replace hG := grown_new hG gs (fun q e => by injection e with e; omega)
      replace kk17 := kk17.other gs (by omega)
      clear gs
      generalize setL w19 _ 0 _ = wR at *
      have u0_ := bR.cell (j := 0) rfl
      have u1_ := bR.cell (j := 1) rfl
      have u2_ := bR.cell (j := 2) rfl
      have u3_ := bR.cell (j := 3) rfl
      refine bodyPost_ret (by simp only [results, Try.results66]; simp [go_sem, u0_, u1_, u2_, u3_]; rfl) rfl ?_
      exact ⟨⟨x7, x2, b3, b4⟩, rfl, hG, kk17.mono (by omega)⟩
    by_cases h1 : x6 = 1
    · subst h1
      have bX_0 := bX.cell (j := 0) rfl
      have bX_1 := bX.cell (j := 1) rfl
      have bX_2 := bX.cell (j := 2) rfl
      have bX_3 := bX.cell (j := 3) rfl
      have bX_z := bX.frozen
      have bX_l := bX.lt
      have bR_0 := bR.cell (j := 0) rfl
      have bR_1 := bR.cell (j := 1) rfl
      have bR_2 := bR.cell (j := 2) rfl
      have bR_3 := bR.cell (j := 3) rfl
      have bR_z := bR.frozen
      have bR_l := bR.lt
      go_wp2_with fail
      clear bX_0 bX_1 bX_2 bX_3 bX_z bX_l bR_0 bR_1 bR_2 bR_3 bR_z bR_l
      have rl := lit_ints w13 [-1, 8] #[.int .i64 (-1), .int .i64 8] 2 rfl rfl (by decide)
      have ga15 := grown_alloc w13 (.cells #[.int .i64 (-1), .int .i64 8] 3)
      have za15 : (w13.alloc (.cells #[.int .i64 (-1), .int .i64 8] 3)).heap.size = w13.heap.size + 1 := by simp
      replace kk13 := kk13.grown0 ga15
      replace h := h.grown ga15 (by omega) (fun q e => by cases e)
      replace bR := bR.keep (ga15.block _ bR.lt (fun e => by cases e))
      replace bX := bX.keep (ga15.block _ bX.lt (fun e => by cases e))
      replace hG := grown_trans hG (grown_weaken ga15)
      have z_16 := ga15.size
      clear ga15
      generalize w13.alloc _ = w15 at *
      generalize hgz16 : w13.heap.size = gz16 at *
      clear hgz16
      refine (among_any g _ _ _ l [-1, 8] w15 h (by omega) hg rl (by omega) (by omega) (by decide) (by decide) kk13 (by omega)).mono ?_; rintro q_ w17 ⟨x7, rfl, gg17, kk17⟩
      clear kk13
      replace h := h.grown gg17 (by omega) (fun q e => by injection e with e; omega)
      replace bR := bR.keep (gg17.block _ bR.lt (fun e => by injection e with e; omega))
      replace bX := bX.keep (gg17.block _ bX.lt (fun e => by injection e with e; omega))
      replace hG := grown_trans hG gg17
      have z_18 := gg17.size
      clear gg17
      clear rl
      have bX_0 := bX.cell (j := 0) rfl
      have bX_1 := bX.cell (j := 1) rfl
      have bX_2 := bX.cell (j := 2) rfl
      have bX_3 := bX.cell (j := 3) rfl
      have bX_z := bX.frozen
      have bX_l := bX.lt
      have bR_0 := bR.cell (j := 0) rfl
      have bR_1 := bR.cell (j := 1) rfl
      have bR_2 := bR.cell (j := 2) rfl
      have bR_3 := bR.cell (j := 3) rfl
      have bR_z := bR.frozen
      have bR_l := bR.lt
      go_upto_region 9 with fail
      clear bX_0 bX_1 bX_2 bX_3 bX_z bX_l bR_0 bR_1 bR_2 bR_3 bR_z bR_l
      generalize hwz : World.setCell _ _ _ = wz_
      obtain rfl : wz_ = setL w17 gX 1 [.int .i64 x7] := hwz.symm
      clear hwz
      have gs19 := setL_grown [.int .i64 x7] w17 gX 1
      replace bX := bX.set1 (j := 1) (.int .i64 x7) (by simp)
      replace bR := bR.other (b := gX) (by omega) 1 [.int .i64 x7]
      replace h := h.away (g := gX) (by omega) 1 [.int .i64 x7]
      replace hG := grown_new hG gs19 (fun q e => by injection e with e; omega)
      replace kk17 := kk17.other gs19 (by omega)
      have zs19 := gs19.size
      clear gs19
      generalize setL w17 gX 1 _ = w19 at *
      have bX_0 := bX.cell (j := 0) rfl
      have bX_1 := bX.cell (j := 1) rfl
      have bX_2 := bX.cell (j := 2) rfl
      have bX_3 := bX.cell (j := 3) rfl
      have bX_z := bX.frozen
      have bX_l := bX.lt
      have bR_0 := bR.cell (j := 0) rfl
      have bR_1 := bR.cell (j := 1) rfl
      have bR_2 := bR.cell (j := 2) rfl
      have bR_3 := bR.cell (j := 3) rfl
      have bR_z := bR.frozen
      have bR_l := bR.lt
      go_wp2_with fail
      clear bX_0 bX_1 bX_2 bX_3 bX_z bX_l bR_0 bR_1 bR_2 bR_3 bR_z bR_l
      generalize hwz : World.setCell (World.setCell (World.setCell (World.setCell _ _ _) _ _) _ _) _ _ = wz_
      obtain rfl : wz_ = setL w19 w.heap.size 0 [.int .i64 x1, .int .i64 x7, .bool b3, .bool b4] := hwz.symm
      clear hwz
      have gs := setL_grown [.int .i64 x1, .int .i64 x7, .bool b3, .bool b4] w19 w.heap.size 0
      replace bR := bR.setAll [.int .i64 x1, .int .i64 x7, .bool b3, .bool b4] rfl
      replace hG := grown_new hG gs (fun q e => by injection e with e; omega)
      replace kk17 := kk17.other gs (by omega)
      clear gs
      generalize setL w19 _ 0 _ = wR at *
      have u0_ := bR.cell (j := 0) rfl
      have u1_ := bR.cell (j := 1) rfl
      have u2_ := bR.cell (j := 2) rfl
      have u3_ := bR.cell (j := 3) rfl
      refine bodyPost_ret (by simp only [results, Try.results66]; simp [go_sem, u0_, u1_, u2_, u3_]; rfl) rfl ?_
      exact ⟨⟨x1, x7, b3, b4⟩, rfl, hG, kk17.mono (by omega)⟩
    · have bX_0 := bX.cell (j := 0) rfl
      have bX_1 := bX.cell (j := 1) rfl
      have bX_2 := bX.cell (j := 2) rfl
      have bX_3 := bX.cell (j := 3) rfl
      have bX_z := bX.frozen
      have bX_l := bX.lt
      have bR_0 := bR.cell (j := 0) rfl
      have bR_1 := bR.cell (j := 1) rfl
      have bR_2 := bR.cell (j := 2) rfl
      have bR_3 := bR.cell (j := 3) rfl
      have bR_z := bR.frozen
      have bR_l := bR.lt
      go_wp2_with fail
      clear bX_0 bX_1 bX_2 bX_3 bX_z bX_l bR_0 bR_1 bR_2 bR_3 bR_z bR_l
      generalize hwz : World.setCell (World.setCell (World.setCell (World.setCell _ _ _) _ _) _ _) _ _ = wz_
      obtain rfl : wz_ = setL w13 w.heap.size 0 [.int .i64 x1, .int .i64 x2, .bool b3, .bool b4] := hwz.symm
      clear hwz
      have gs := setL_grown [.int .i64 x1, .int .i64 x2, .bool b3, .bool b4] w13 w.heap.size 0
      replace bR := bR.setAll [.int .i64 x1, .int .i64 x2, .bool b3, .bool b4] rfl
      replace hG := grown_new hG gs (fun q e => by injection e with e; omega)
      replace kk13 := kk13.other gs (by omega)
      clear gs
      generalize setL w13 _ 0 _ = wR at *
      have u0_ := bR.cell (j := 0) rfl
      have u1_ := bR.cell (j := 1) rfl
      have u2_ := bR.cell (j := 2) rfl
      have u3_ := bR.cell (j := 3) rfl
      refine bodyPost_ret (by simp only [results, Try.results66]; simp [go_sem, u0_, u1_, u2_, u3_]; rfl) rfl ?_
      exact ⟨⟨x1, x2, b3, b4⟩, rfl, hG, kk13.mono (by omega)⟩
set_option maxRecDepth 8000 in
set_option maxHeartbeats 4000000 in
theorem lines7_any (g k : Nat) (cv : Value) (l : List UInt8) (w : World) {lo hi : Nat} (h : Rd By.cells 1 w lo hi cv l) (hh : hi ≤ w.heap.size) (hg : g < lo ∨ hi ≤ g) (hc : Cur w g cv k) (hk : k ≤ 100000) :
    Calls Try.prog 75 #[.pointer (some ⟨g, 0, none⟩)] w fun e w' => ∃ v, ∃ ls : List Ln, e = .returned v ∧ ls.length ≤ 10 ∧ Ow Ln.cells 4 25 w' w.heap.size w'.heap.size v ls ∧ w.grownBy w' (some g) ∧ Cur w' g cv (k + 400) := by
  have hgl := hc.lt
  have hG := World.grownBy.refl w (some g)
  go_enter Try.func75, Try.ntmps75
  have oK := own_empty w (base := w.heap.size) 25 4 (Nat.le_refl _)
  have ga0 := grown_alloc w (.cells #[] 25)
  have za0 : (w.alloc (.cells #[] 25)).heap.size = w.heap.size + 1 := by simp
  go_wp2_with fail
  replace hc := hc.grown0 ga0
  replace h := h.grown ga0 (by omega) (fun q e => by cases e)
  replace hG := grown_trans hG (grown_weaken ga0)
  have z_1 := ga0.size
  clear ga0
  generalize w.alloc _ = wA at *
  refine (pick_any g _ _ l 6 wA h (by omega) hg hc (by omega) (by omega)).mono ?_; rintro q_ w2 ⟨x1, rfl, x1_0, x1_1, gg2, kk2⟩
  clear hc
  replace h := h.grown gg2 (by omega) (fun q e => by injection e with e; omega)
  replace oK := oK.kept gg2 (.inr (fun e => by have := own_ge oK _ e; omega))
  replace hG := grown_trans hG gg2
  have z_3 := gg2.size
  clear gg2
  obtain ⟨m, rfl⟩ : ∃ m : Nat, x1 = m := ⟨x1.toNat, by omega⟩
  have hm6 : m < 6 := by omega
  clear x1_0 x1_1
  go_wp2_with fail
  go_loopw [3, 4] (fun v3 v4 wr => ∃ (i q : Nat) (ls : List Ln), i + q = m ∧ v4 = .int .i64 q ∧ Hid (ls.length = i) ∧ w.grownBy wr (some g) ∧ Cur wr g cv (k + 2 + 40 * i) ∧ w.heap.size ≤ wr.heap.size ∧ Rd By.cells 1 wr lo hi cv l ∧ wr.ownsRow w.heap.size 25 4 v3 i (ls.flatMap Ln.cells)) (fun _ v4 _ => (intOf v4).toNat)
  case atStart => exact ⟨0, m, [], by omega, rfl, Lib.hid rfl, hG, kk2.mono (by omega), by omega, h, oK⟩
  case round =>
    clear kk2 hG h oK
    obtain ⟨i, q, ls, hiq, rfl, HL, hG, hc, zw, h, oK⟩ := hrel
    rcases Nat.eq_zero_or_pos q with hq | hq
    · obtain rfl : i = m := by omega
      subst hq
      go_wp2_with fail
      refine (one_any g _ _ l 24 wr h (by omega) hg hc (by omega) (by omega)).mono ?_; rintro q_ w101 ⟨b2, rfl, gg101, kk101⟩
      clear hc
      replace h := h.grown gg101 (by omega) (fun q e => by injection e with e; omega)
      replace oK := oK.kept gg101 (.inr (fun e => by have := own_ge oK _ e; omega))
      replace hG := grown_trans hG gg101
      have z_102 := gg101.size
      clear gg101
      cases b2
      · have oR := Ow.of_own Ln.cells_len oK rfl HL.out.symm
        go_wp2_with fail
        go_ret
        exact ⟨_, _, rfl, by rw [HL.out]; omega, oR, hG, kk101.mono (by omega)⟩
      · go_wp2_with fail
        have oR0 := Ow.of_own Ln.cells_len oK rfl HL.out.symm
        obtain ⟨A3, n3, c3, rfl, H3, _, _⟩ := oR0.rd.form
        obtain rfl : n3 = i := by rw [H3.out, HL.out]
        clear H3 oR0
        go_loopw [3] (fun v3 wr => ∃ (i c : Nat) (A : Option Addr) (ls : List Ln), i ≤ 7 ∧ v3 = .slice A i c ∧ Hid (ls.length = i) ∧ w.grownBy wr (some g) ∧ Cur wr g cv (k + 300 + 4 * i) ∧ w.heap.size ≤ wr.heap.size ∧ Rd By.cells 1 wr lo hi cv l ∧ wr.ownsRow w.heap.size 25 4 v3 i (ls.flatMap Ln.cells)) (fun v3 _ => 8 - match v3 with | .slice _ n _ => n | _ => 0)
        case atStart => exact ⟨_, _, _, ls, by omega, rfl, HL, hG, kk101.mono (by omega), by omega, h, oK⟩
        case round =>
          clear kk101 hG h oK HL
          obtain ⟨i, c, A, ls, hi7, rfl, HL, hG, hc, zw, h, oK⟩ := hrel
          go_wp2_with fail
          refine (pick_any g _ _ l 2 wr h (by omega) hg hc (by omega) (by omega)).mono ?_; rintro q_ w301 ⟨x9, rfl, x9_0, x9_1, gg301, kk301⟩
          clear hc
          replace h := h.grown gg301 (by omega) (fun q e => by injection e with e; omega)
          replace oK := oK.kept gg301 (.inr (fun e => by have := own_ge oK _ e; omega))
          replace hG := grown_trans hG gg301
          have z_302 := gg301.size
          clear gg301
          by_cases hlt : (i : Int) < 6 + x9
          · have hld : decide ((i : Int) < 6 + x9) = true := decide_eq_true hlt
            have ga8 := grown_alloc w301 (.cells #[.int .i64 0, .int .i64 2, .bool false, .bool false] 25)
            have za8 : (w301.alloc (.cells #[.int .i64 0, .int .i64 2, .bool false, .bool false] 25)).heap.size = w301.heap.size + 1 := by simp
            have oL := oK.alloc (.cells #[.int .i64 0, .int .i64 2, .bool false, .bool false] 25)
            go_wp2_with (at_builtin; (refine Ln.app_one rfl _ _ rfl w.heap.size (.slice A i c) i _ rfl oL (g := w301.heap.size) (c := 1) ⟨0, 2, false, false⟩ rfl (fun j u hu => cell_new _ _ _ rfl (by simpa [Ln.cells] using hu)) (by omega) (by omega) ?_); (intro v8 w8 o8 g8))
            replace hG := grown_new (grown_trans hG (grown_weaken ga8)) g8 (fun q e => by have := own_ge oL _ e; omega)
            replace kk301 := (kk301.grown0 ga8).row g8 (fun b e => by have := own_ge oL _ e; omega)
            replace h := (h.grown ga8 (by omega) (fun q e => by cases e)).grown g8 (by omega) (fun q e => by have := own_ge oL _ e; omega)
            have z8 := g8.size
            obtain ⟨A8, n8, c8, rfl, H8, _, _⟩ := (Ow.of_own Ln.cells_len o8 (l := ls ++ [⟨0, 2, false, false⟩]) (by rw [List.flatMap_append]; simp [Ln.cells]) (by rw [List.length_append, HL.out]; rfl)).rd.form
            obtain rfl : n8 = i + 1 := by rw [H8.out, List.length_append, HL.out]; rfl
            go_roundw
            case rel => exact ⟨i + 1, c8, A8, ls ++ [⟨0, 2, false, false⟩], by omega, rfl, Lib.hid (by rw [List.length_append, HL.out]; rfl), hG, kk301.mono (by omega), by omega, h, by rw [List.flatMap_append]; simpa [Ln.cells] using o8⟩
            case measure => simp; omega
          · have hld : decide ((i : Int) < 6 + x9) = false := decide_eq_false hlt
            have oR := Ow.of_own Ln.cells_len oK rfl HL.out.symm
            go_wp2_with fail
            go_ret
            exact ⟨_, _, rfl, by rw [HL.out]; omega, oR, hG, kk301.mono (by omega)⟩
    · obtain ⟨p, rfl⟩ : ∃ p, q = p + 1 := ⟨q - 1, by omega⟩
      have hqd : decide ((0 : Int) < ((p + 1 : Nat) : Int)) = true := decide_eq_true (by omega)
      go_wp2_with fail
      refine (line_any g _ _ l wr h (by omega) hg hc (by omega)).mono ?_; rintro q_ w101 ⟨x2, rfl, gg101, kk101⟩
      clear hc
      replace h := h.grown gg101 (by omega) (fun q e => by injection e with e; omega)
      replace oK := oK.kept gg101 (.inr (fun e => by have := own_ge oK _ e; omega))
      replace hG := grown_trans hG gg101
      have z_102 := gg101.size
      clear gg101
      unfold Ln.val
      have ga8 := grown_alloc w101 (.cells #[.int .i64 x2.kind, .int .i64 x2.irq, .bool x2.high, .bool x2.raised] 25)
      have za8 : (w101.alloc (.cells #[.int .i64 x2.kind, .int .i64 x2.irq, .bool x2.high, .bool x2.raised] 25)).heap.size = w101.heap.size + 1 := by simp
      have oL := oK.alloc (.cells #[.int .i64 x2.kind, .int .i64 x2.irq, .bool x2.high, .bool x2.raised] 25)
      go_wp2_with (at_builtin; (refine Ln.app_one rfl _ _ rfl w.heap.size u3 i _ rfl oL (g := w101.heap.size) (c := 1) x2 rfl (fun j u hu => cell_new _ _ _ rfl (by simpa [Ln.cells] using hu)) (by omega) (by omega) ?_); (intro v8 w8 o8 g8))
      replace hG := grown_new (grown_trans hG (grown_weaken ga8)) g8 (fun q e => by have := own_ge oL _ e; omega)
      replace kk101 := (kk101.grown0 ga8).row g8 (fun b e => by have := own_ge oL _ e; omega)
      replace h := (h.grown ga8 (by omega) (fun q e => by cases e)).grown g8 (by omega) (fun q e => by have := own_ge oL _ e; omega)
      have z8 := g8.size
      go_roundw
      case rel => exact ⟨i + 1, p, ls ++ [x2], by omega, by go_num, Lib.hid (by rw [List.length_append, HL.out]; rfl), hG, kk101.mono (by omega), by omega, h, by rw [List.flatMap_append]; simpa [Ln.cells] using o8⟩
      case measure => simp [intOf]

end Go.Proofs.Ytgnalbfepkcokaa
