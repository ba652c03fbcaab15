/- The reference's Draw functions of one line, and of lines with levels: they return something, in new memory. No condition. -/
import Derived.Test.YtgnalbfepkcokaaDrLn2
namespace Go.Proofs.Ytgnalbfepkcokaa
open Go.RowKit Go.ChangeShapes Go.WideShapes Go.Deep

set_option maxRecDepth 8000 in
set_option maxHeartbeats 2000000 in
theorem DrawIsLine_any (cv : Value) (l : List UInt8) (w : World) {lo hi : Nat} (h : Rd By.cells 1 w lo hi cv l) (hh : hi ≤ w.heap.size) :
    Calls Try.prog 72 #[cv] w fun e w' => ∃ t : Ln, e = .returned t.val ∧ Below w.heap.size w w' := by
  obtain ⟨Ac, nc, cc, rfl, _, _, _⟩ := h.form
  go_enter Try.func72, Try.ntmps72
  go_wp2_with fail
  have bR := Box.new w #[.int .i64 0, .int .i64 0, .bool false, .bool false] 25 rfl
  have hB := (Below.refl w.heap.size w).alloc (Nat.le_refl _) (.cells #[.int .i64 0, .int .i64 0, .bool false, .bool false] 25)
  have zr : (w.alloc (.cells #[.int .i64 0, .int .i64 0, .bool false, .bool false] 25)).heap.size = w.heap.size + 1 := by simp
  generalize w.alloc (.cells #[.int .i64 0, .int .i64 0, .bool false, .bool false] 25) = wR at *
  have bx := Box.new wR #[.slice Ac nc cc, .int .i64 0, .int .u64 0] 80 rfl
  have bl := (Below.refl wR.heap.size wR).alloc (Nat.le_refl _) (.cells #[.slice Ac nc cc, .int .i64 0, .int .u64 0] 80)
  replace bR := bR.below bl bR.lt
  replace hB := hB.alloc (by omega) (.cells #[.slice Ac nc cc, .int .i64 0, .int .u64 0] 80)
  have za : (wR.alloc (.cells #[.slice Ac nc cc, .int .i64 0, .int .u64 0] 80)).heap.size = wR.heap.size + 1 := by simp
  have hc : Cur (wR.alloc (.cells #[.slice Ac nc cc, .int .i64 0, .int .u64 0] 80)) wR.heap.size (.slice Ac nc cc) 0 := ⟨0, 0, Nat.le_refl _, Lib.hid (by unfold U64; omega), bx⟩
  have hg : wR.heap.size < lo ∨ hi ≤ wR.heap.size := .inr (by omega)
  replace h := h.below hB hh
  clear bx bl
  generalize wR.alloc _ = w0 at *
  generalize wR.heap.size = g at *
  rw [← zr]
  refine (line_any g _ _ l w0 h (by omega) hg hc (by omega)).mono ?_; rintro q_ w1 ⟨x1, rfl, gg1, kk1⟩
  clear hc
  replace h := h.grown gg1 (by omega) (fun q e => by injection e with e; omega)
  replace bR := bR.keep (gg1.block _ bR.lt (fun e => by injection e with e; omega))
  replace hB := hB.grown gg1 (by omega) (fun q e => by injection e with e; omega)
  have z_2 := gg1.size
  clear gg1
  obtain ⟨k1, i1, h1, r1⟩ := x1
  unfold Ln.val
  have bR_z := bR.frozen
  have bR_l := bR.lt
  have bR_0 := bR.cell (j := 0) rfl
  have bR_1 := bR.cell (j := 1) rfl
  have bR_2 := bR.cell (j := 2) rfl
  have bR_3 := bR.cell (j := 3) rfl
  go_wp2_with fail
  clear bR_z bR_l bR_0 bR_1 bR_2 bR_3
  generalize hwz : World.setCell (World.setCell (World.setCell (World.setCell _ _ _) _ _) _ _) _ _ = wz_
  obtain rfl : wz_ = setL w1 (w.heap.size) 0 [.int .i64 k1, .int .i64 i1, .bool h1, .bool r1] := hwz.symm
  clear hwz
  replace hB := setL_below hB [.int .i64 k1, .int .i64 i1, .bool h1, .bool r1] (w.heap.size) 0 (Nat.le_refl _)
  replace bR := bR.setAll [.int .i64 k1, .int .i64 i1, .bool h1, .bool r1] rfl
  generalize setL w1 _ 0 _ = wZ at *
  have u0_ := bR.cell (j := 0) rfl
  have u1_ := bR.cell (j := 1) rfl
  have u2_ := bR.cell (j := 2) rfl
  have u3_ := bR.cell (j := 3) rfl
  refine bodyPost_ret (by simp only [results, Try.results72]; simp [go_sem, u0_, u1_, u2_, u3_]; rfl) rfl ?_
  exact ⟨⟨k1, i1, h1, r1⟩, rfl, hB⟩
set_option maxRecDepth 8000 in
set_option maxHeartbeats 2000000 in
theorem DrawTakeLine_any (cv : Value) (l : List UInt8) (w : World) {lo hi : Nat} (h : Rd By.cells 1 w lo hi cv l) (hh : hi ≤ w.heap.size) :
    Calls Try.prog 12 #[cv] w fun e w' => ∃ t : Ln, e = .returned t.val ∧ Below w.heap.size w w' := by
  go_enter Try.func12, Try.ntmps12
  go_wp2_with fail
  have bR := Box.new w #[.int .i64 0, .int .i64 0, .bool false, .bool false] 25 rfl
  have hB := (Below.refl w.heap.size w).alloc (Nat.le_refl _) (.cells #[.int .i64 0, .int .i64 0, .bool false, .bool false] 25)
  have zr : (w.alloc (.cells #[.int .i64 0, .int .i64 0, .bool false, .bool false] 25)).heap.size = w.heap.size + 1 := by simp
  replace h := h.below hB hh
  generalize w.alloc (.cells #[.int .i64 0, .int .i64 0, .bool false, .bool false] 25) = wR at *
  refine (DrawIsLine_any cv l wR h (by omega)).mono ?_; rintro q_ w1 ⟨t, rfl, b1⟩
  replace bR := bR.below b1 bR.lt
  replace hB := hB.trans (b1.mono (by omega))
  clear b1
  obtain ⟨k1, i1, h1, r1⟩ := t
  unfold Ln.val
  have bR_z := bR.frozen
  have bR_l := bR.lt
  have bR_0 := bR.cell (j := 0) rfl
  have bR_1 := bR.cell (j := 1) rfl
  have bR_2 := bR.cell (j := 2) rfl
  have bR_3 := bR.cell (j := 3) rfl
  go_wp2_with fail
  clear bR_z bR_l bR_0 bR_1 bR_2 bR_3
  generalize hwz : World.setCell (World.setCell (World.setCell (World.setCell _ _ _) _ _) _ _) _ _ = wz_
  obtain rfl : wz_ = setL w1 (w.heap.size) 0 [.int .i64 k1, .int .i64 i1, .bool h1, .bool r1] := hwz.symm
  clear hwz
  replace hB := setL_below hB [.int .i64 k1, .int .i64 i1, .bool h1, .bool r1] (w.heap.size) 0 (Nat.le_refl _)
  replace bR := bR.setAll [.int .i64 k1, .int .i64 i1, .bool h1, .bool r1] rfl
  generalize setL w1 _ 0 _ = wZ at *
  have u0_ := bR.cell (j := 0) rfl
  have u1_ := bR.cell (j := 1) rfl
  have u2_ := bR.cell (j := 2) rfl
  have u3_ := bR.cell (j := 3) rfl
  refine bodyPost_ret (by simp only [results, Try.results12]; simp [go_sem, u0_, u1_, u2_, u3_]; rfl) rfl ?_
  exact ⟨⟨k1, i1, h1, r1⟩, rfl, hB⟩
set_option maxRecDepth 8000 in
set_option maxHeartbeats 2000000 in
theorem DrawDriveLine_any (cv : Value) (l : List UInt8) (w : World) {lo hi : Nat} (h : Rd By.cells 1 w lo hi cv l) (hh : hi ≤ w.heap.size) :
    Calls Try.prog 8 #[cv] w fun e w' => ∃ t : Ln, ∃ b : Bool, e = .returned (.tuple #[t.val, .bool b]) ∧ Below w.heap.size w w' := by
  obtain ⟨Ac, nc, cc, rfl, _, _, _⟩ := h.form
  go_enter Try.func8, Try.ntmps8
  go_wp2_with fail
  have bR := Box.new w #[.int .i64 0, .int .i64 0, .bool false, .bool false] 25 rfl
  have hB := (Below.refl w.heap.size w).alloc (Nat.le_refl _) (.cells #[.int .i64 0, .int .i64 0, .bool false, .bool false] 25)
  have zr : (w.alloc (.cells #[.int .i64 0, .int .i64 0, .bool false, .bool false] 25)).heap.size = w.heap.size + 1 := by simp
  generalize w.alloc (.cells #[.int .i64 0, .int .i64 0, .bool false, .bool false] 25) = wR at *
  have bx := Box.new wR #[.slice Ac nc cc, .int .i64 0, .int .u64 0] 80 rfl
  have bl := (Below.refl wR.heap.size wR).alloc (Nat.le_refl _) (.cells #[.slice Ac nc cc, .int .i64 0, .int .u64 0] 80)
  replace bR := bR.below bl bR.lt
  replace hB := hB.alloc (by omega) (.cells #[.slice Ac nc cc, .int .i64 0, .int .u64 0] 80)
  have za : (wR.alloc (.cells #[.slice Ac nc cc, .int .i64 0, .int .u64 0] 80)).heap.size = wR.heap.size + 1 := by simp
  have hc : Cur (wR.alloc (.cells #[.slice Ac nc cc, .int .i64 0, .int .u64 0] 80)) wR.heap.size (.slice Ac nc cc) 0 := ⟨0, 0, Nat.le_refl _, Lib.hid (by unfold U64; omega), bx⟩
  have hg : wR.heap.size < lo ∨ hi ≤ wR.heap.size := .inr (by omega)
  replace h := h.below hB hh
  clear bx bl
  generalize wR.alloc _ = w0 at *
  generalize wR.heap.size = g at *
  rw [← zr]
  refine (line_any g _ _ l w0 h (by omega) hg hc (by omega)).mono ?_; rintro q_ w1 ⟨x1, rfl, gg1, kk1⟩
  clear hc
  replace h := h.grown gg1 (by omega) (fun q e => by injection e with e; omega)
  replace bR := bR.keep (gg1.block _ bR.lt (fun e => by injection e with e; omega))
  replace hB := hB.grown gg1 (by omega) (fun q e => by injection e with e; omega)
  have z_2 := gg1.size
  clear gg1
  obtain ⟨k1, i1, h1, r1⟩ := x1
  unfold Ln.val
  have bR_z := bR.frozen
  have bR_l := bR.lt
  have bR_0 := bR.cell (j := 0) rfl
  have bR_1 := bR.cell (j := 1) rfl
  have bR_2 := bR.cell (j := 2) rfl
  have bR_3 := bR.cell (j := 3) rfl
  go_wp2_with fail
  clear bR_z bR_l bR_0 bR_1 bR_2 bR_3
  rw [← zr]
  refine (one_any g _ _ l 2 w1 h (by omega) hg kk1 (by omega) (by omega)).mono ?_; rintro q_ w3 ⟨b2, rfl, gg3, kk3⟩
  clear kk1
  replace h := h.grown gg3 (by omega) (fun q e => by injection e with e; omega)
  replace bR := bR.keep (gg3.block _ bR.lt (fun e => by injection e with e; omega))
  replace hB := hB.grown gg3 (by omega) (fun q e => by injection e with e; omega)
  have z_4 := gg3.size
  clear gg3
  have bR_z := bR.frozen
  have bR_l := bR.lt
  have bR_0 := bR.cell (j := 0) rfl
  have bR_1 := bR.cell (j := 1) rfl
  have bR_2 := bR.cell (j := 2) rfl
  have bR_3 := bR.cell (j := 3) rfl
  go_wp2_with fail
  clear bR_z bR_l bR_0 bR_1 bR_2 bR_3
  generalize hwz : World.setCell (World.setCell (World.setCell (World.setCell _ _ _) _ _) _ _) _ _ = wz_
  obtain rfl : wz_ = setL w3 (w.heap.size) 0 [.int .i64 k1, .int .i64 i1, .bool h1, .bool r1] := hwz.symm
  clear hwz
  replace hB := setL_below hB [.int .i64 k1, .int .i64 i1, .bool h1, .bool r1] (w.heap.size) 0 (Nat.le_refl _)
  replace bR := bR.setAll [.int .i64 k1, .int .i64 i1, .bool h1, .bool r1] rfl
  generalize setL w3 _ 0 _ = wZ at *
  have u0_ := bR.cell (j := 0) rfl
  have u1_ := bR.cell (j := 1) rfl
  have u2_ := bR.cell (j := 2) rfl
  have u3_ := bR.cell (j := 3) rfl
  refine bodyPost_ret (by simp only [results, Try.results8]; simp [go_sem, u0_, u1_, u2_, u3_]; rfl) rfl ?_
  exact ⟨⟨k1, i1, h1, r1⟩, b2, rfl, hB⟩
set_option maxRecDepth 8000 in
set_option maxHeartbeats 4000000 in
theorem DrawDriveLines_any (cv : Value) (l : List UInt8) (w : World) {lo hi : Nat} (h : Rd By.cells 1 w lo hi cv l) (hh : hi ≤ w.heap.size) :
    Calls Try.prog 15 #[cv] w fun e w' => ∃ v v2, ∃ ls : List Ln, ∃ bs : List Bool, e = .returned (.tuple #[v, v2]) ∧ Ow Ln.cells 4 25 w' w.heap.size w'.heap.size v ls ∧ Ow Bo.cells 1 4 w' w.heap.size w'.heap.size v2 bs ∧ Below w.heap.size w w' := by
  obtain ⟨Ac, nc, cc, rfl, _, _, _⟩ := h.form
  go_enter Try.func15, Try.ntmps15
  go_wp2_with fail
  have bx := Box.new w #[.slice Ac nc cc, .int .i64 0, .int .u64 0] 80 rfl
  have hB := (Below.refl w.heap.size w).alloc (Nat.le_refl _) (.cells #[.slice Ac nc cc, .int .i64 0, .int .u64 0] 80)
  have za : (w.alloc (.cells #[.slice Ac nc cc, .int .i64 0, .int .u64 0] 80)).heap.size = w.heap.size + 1 := by simp
  have hc : Cur (w.alloc (.cells #[.slice Ac nc cc, .int .i64 0, .int .u64 0] 80)) w.heap.size (.slice Ac nc cc) 0 := ⟨0, 0, Nat.le_refl _, Lib.hid (by unfold U64; omega), bx⟩
  have hg : w.heap.size < lo ∨ hi ≤ w.heap.size := .inr hh
  replace h := h.below hB hh
  clear bx
  generalize w.alloc _ = w0 at *
  generalize hgg : w.heap.size = g at *
  have HG := Lib.hid hgg
  clear hgg
  refine (lines7_any g _ _ l w0 h (by omega) hg hc (by omega)).mono ?_; rintro q_ w1 ⟨v1, l1, rfl, n1, o1, gg1, kk1⟩
  clear hc
  replace h := h.grown gg1 (by omega) (fun q e => by injection e with e; omega)
  replace hB := hB.grown gg1 (by omega) (fun q e => by injection e with e; omega)
  have z_2 := gg1.size
  clear gg1
  obtain ⟨A, n, c, rfl, H, hnc, hm⟩ := o1.rd.form
  have hn10 : n ≤ 10 := by rw [H.out]; exact n1
  clear n1
  have oK := own_empty w1 (base := w1.heap.size) 4 1 (Nat.le_refl _)
  have ga0 := grown_alloc w1 (.cells #[] 4)
  have za0 : (w1.alloc (.cells #[] 4)).heap.size = w1.heap.size + 1 := by simp
  go_wp2_with fail
  replace kk1 := kk1.grown0 ga0
  replace h := h.grown ga0 (by omega) (fun q e => by cases e)
  replace o1 := o1.apart ga0 (fun q e => by cases e)
  replace hB := hB.grown ga0 (by omega) (fun q e => by cases e)
  have z_3 := ga0.size
  clear ga0
  generalize w1.alloc _ = wA at *
  generalize hK : w1.heap.size = K at *
  clear hK
  have hKg : g < K := by omega
  go_loopw [6, 7] (fun v3 v4 wr => ∃ (i : Nat) (bs : List Bool), i ≤ n ∧ v4 = .int .i64 i ∧ Hid (bs.length = i) ∧ Below g w wr ∧ Cur wr g (.slice Ac nc cc) (400 + 4 * i) ∧ K ≤ wr.heap.size ∧ Rd By.cells 1 wr lo hi (.slice Ac nc cc) l ∧ Ow Ln.cells 4 25 wr (g + 1) K (.slice A n c) l1 ∧ wr.ownsRow K 4 1 v3 i (bs.flatMap Bo.cells)) (fun _ v4 _ => n - (intOf v4).toNat)
  case atStart => exact ⟨0, [], Nat.zero_le _, rfl, Lib.hid rfl, hB, kk1.mono (by omega), by omega, h, o1.mono (by omega) (by omega), oK⟩
  case round =>
    clear kk1 hB h oK o1
    obtain ⟨i, bs, hin, rfl, HL, hB, hc, zw, h, o1, oK⟩ := hrel
    by_cases hlt : i < n
    · have hid : decide ((i : Int) < (n : Int)) = true := decide_eq_true (by omega)
      go_wp2_with fail
      refine (one_any g _ _ l 2 wr h (by omega) hg hc (by omega) (by omega)).mono ?_; rintro q_ w101 ⟨b2, rfl, gg101, kk101⟩
      clear hc
      replace h := h.grown gg101 (by omega) (fun q e => by injection e with e; omega)
      replace oK := oK.kept gg101 (.inr (fun e => by have := own_ge oK _ e; omega))
      replace o1 := o1.apart gg101 (fun q e => by injection e with e; omega)
      replace hB := hB.grown gg101 (by omega) (fun q e => by injection e with e; omega)
      have z_102 := gg101.size
      clear gg101
      have ga8 := grown_alloc w101 (.cells #[.bool b2] 4)
      have za8 : (w101.alloc (.cells #[.bool b2] 4)).heap.size = w101.heap.size + 1 := by simp
      have oL := oK.alloc (.cells #[.bool b2] 4)
      go_wp2_with (at_builtin; (refine Bo.app_one rfl _ _ rfl K u6 i _ rfl oL (g := w101.heap.size) (c := 1) b2 rfl (fun j u hu => cell_new _ _ _ rfl (by simpa [Bo.cells] using hu)) (by omega) (by omega) ?_); (intro v8 w8 o8 g8))
      replace hB := (hB.grown ga8 (by omega) (fun q e => by cases e)).grown g8 (by omega) (fun q e => by have := own_ge oL _ e; omega)
      replace kk101 := (kk101.grown0 ga8).row g8 (fun b e => by have := own_ge oL _ e; omega)
      replace h := (h.grown ga8 (by omega) (fun q e => by cases e)).grown g8 (by omega) (fun q e => by have := own_ge oL _ e; omega)
      replace o1 := (o1.apart ga8 (fun q e => by cases e)).apart g8 (fun q e => by have := own_ge oL _ e; omega)
      have z8 := g8.size
      go_roundw
      case rel => exact ⟨i + 1, bs ++ [b2], by omega, by go_num, Lib.hid (by rw [List.length_append, HL.out]; rfl), hB, kk101.mono (by omega), by omega, h, o1, by rw [List.flatMap_append]; simpa [Bo.cells] using o8⟩
      case measure => simp [intOf]; omega
    · have hid : decide ((i : Int) < (n : Int)) = false := decide_eq_false (by omega)
      obtain rfl : i = n := by omega
      go_wp2_with fail
      refine (one_any g _ _ l 12 wr h (by omega) hg hc (by omega) (by omega)).mono ?_; rintro q_ w101 ⟨b3, rfl, gg101, kk101⟩
      clear hc
      replace h := h.grown gg101 (by omega) (fun q e => by injection e with e; omega)
      replace oK := oK.kept gg101 (.inr (fun e => by have := own_ge oK _ e; omega))
      replace o1 := o1.apart gg101 (fun q e => by injection e with e; omega)
      replace hB := hB.grown gg101 (by omega) (fun q e => by injection e with e; omega)
      have z_102 := gg101.size
      clear gg101
      cases b3
      · have oR := Ow.of_own Bo.cells_len oK rfl HL.out.symm
        go_wp2_with fail
        go_ret2
        rw [HG.out]
        exact ⟨_, _, l1, _, rfl, o1.mono (by omega) (by omega), oR.mono (by omega) (by omega), hB⟩
      · have ga8 := grown_alloc w101 (.cells #[.bool true] 4)
        have za8 : (w101.alloc (.cells #[.bool true] 4)).heap.size = w101.heap.size + 1 := by simp
        have oL := oK.alloc (.cells #[.bool true] 4)
        go_wp2_with (at_builtin; (refine Bo.app_one rfl _ _ rfl K u6 i _ rfl oL (g := w101.heap.size) (c := 1) true rfl (fun j u hu => cell_new _ _ _ rfl (by simpa [Bo.cells] using hu)) (by omega) (by omega) ?_); (intro v8 w8 o8 g8))
        replace hB := (hB.grown ga8 (by omega) (fun q e => by cases e)).grown g8 (by omega) (fun q e => by have := own_ge oL _ e; omega)
        replace kk101 := (kk101.grown0 ga8).row g8 (fun b e => by have := own_ge oL _ e; omega)
        replace h := (h.grown ga8 (by omega) (fun q e => by cases e)).grown g8 (by omega) (fun q e => by have := own_ge oL _ e; omega)
        replace o1 := (o1.apart ga8 (fun q e => by cases e)).apart g8 (fun q e => by have := own_ge oL _ e; omega)
        have z8 := g8.size
        have oR := Ow.of_own Bo.cells_len o8 (l := bs ++ [true]) (by rw [List.flatMap_append]; simp [Bo.cells]) (by rw [List.length_append, HL.out]; rfl)
        go_ret2
        rw [HG.out]
        exact ⟨_, _, l1, _, rfl, o1.mono (by omega) (by omega), oR.mono (by omega) (by omega), hB⟩

end Go.Proofs.Ytgnalbfepkcokaa
