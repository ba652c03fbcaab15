/- A level is raised exactly while it is high, an edge is raised until it is taken, and driving twice is driving once: the law 'FnLines' says so of every code. No condition. -/
import Derived.Test.YtgnalbfepkcokaaDrLn3
import Derived.Test.YtgnalbfepkcokaaVLn
import Derived.Test.YtgnalbfepkcokaaVNm
import Derived.Test.YtgnalbfepkcokaaLnDrive
import Derived.Test.YtgnalbfepkcokaaLnPulse2
import Derived.Test.YtgnalbfepkcokaaLnLaw1
namespace Go.Proofs.Ytgnalbfepkcokaa
open Go.RowKit Go.ChangeShapes Go.WideShapes Go.Deep

theorem Ln.drive_again (t : Ln) (h : Bool) : (t.drive h).drive h = t.drive h := by
  unfold Ln.drive
  by_cases hk : t.kind = 1 <;> simp [hk]
theorem Ln.plK_kind (t : Ln) : ∀ k : Nat, (Ln.plK t k).1.kind = t.kind
  | 0 => rfl
  | k + 1 => by
    have ih := Ln.plK_kind t k
    simpa [Ln.plK, Ln.pulse, Ln.drive] using ih
theorem Ln.plK_edge {t : Ln} (h : t.kind = 0) : ∀ k : Nat, (Ln.plK t k).2 ≤ 1 ∧ ((Ln.plK t k).2 = 0 ∨ (Ln.plK t k).1.raised = true)
  | 0 => by simp [Ln.plK]
  | k + 1 => by
    have ih := Ln.plK_edge h k
    have hk := Ln.plK_kind t k
    rw [h] at hk
    unfold Ln.plK
    revert ih hk
    generalize Ln.plK t k = p
    intro ih hk
    obtain ⟨⟨a, b, c, d⟩, n⟩ := p
    simp only at ih hk
    subst hk
    cases c <;> cases d <;> simp [Ln.pulseB, Ln.pulse, Ln.drive] at ih ⊢ <;> omega
theorem Ln.pl_one {l : List Ln} {i n : Int} (h : Ln.plOk l i n = true) : ∃ (k : Nat) (t : Ln), i = k ∧ k < l.length ∧ l[k]? = some t ∧ (t.kind = 0 ∧ Ln.plN l i n ≤ 1 ∨ t.kind = 1) := by
  have h0 := h
  simp only [Ln.plOk, Bool.and_eq_true] at h
  obtain ⟨h1, h2, h3⟩ := h
  obtain ⟨k, m, t, rfl, rfl, hk, hm, ht⟩ := Ln.pl_get h2 h3
  refine ⟨k, t, rfl, hk, ht, ?_⟩
  rcases Ln.ok_kind (Ln.good_ok h1 ht) with h4 | h4
  · refine .inl ⟨h4, ?_⟩
    unfold Ln.plN
    rw [if_pos h0]
    simp only [Int.toNat_natCast, ht]
    exact (Ln.plK_edge h4 m).1
  · exact .inr h4

set_option maxRecDepth 8000 in
set_option maxHeartbeats 16000000 in
theorem FnLines_walk (cv : Value) (l : List UInt8) (w : World) (h : Rd By.cells 1 w 0 w.heap.size cv l) :
    Calls Try.prog 3 #[cv] w fun e w' => e = .returned (.bool true) ∧ Below w.heap.size w w' := by
  have hB := Below.refl w.heap.size w
  have z_0 : w.heap.size ≤ w.heap.size := Nat.le_refl _
  have c0 := rBig_any cv l w h
  by_cases hz : 65536 < l.length
  · rw [decide_eq_true hz] at c0
    go_enter Try.func3, Try.ntmps3
    go_wp2_with fail
    refine (c0).mono ?_; rintro q_ w_ ⟨rfl, rfl⟩
    go_wp2_with fail
    go_ret
    exact ⟨rfl, hB⟩
  rw [decide_eq_false hz] at c0
  go_enter Try.func3, Try.ntmps3
  go_wp2_with fail
  refine (c0).mono ?_; rintro q_ w_ ⟨rfl, rfl⟩
  clear c0
  go_wp2_with fail
  refine (DrawDriveLine_any cv l w h (by omega)).mono ?_; rintro q_ w1 ⟨x1, b1, rfl, b_1⟩
  replace h := h.below b_1 (by omega)
  have z_2 := b_1.size
  replace hB := hB.trans (b_1.mono (by omega))
  clear b_1
  obtain ⟨k1, i1, h1, r1⟩ := x1
  obtain ⟨y, hy⟩ : ∃ y, Ln.driveR ⟨k1, i1, h1, r1⟩ b1 = y := ⟨_, rfl⟩
  obtain ⟨ky, iy, hy_, ry⟩ := y
  obtain ⟨ok1, hok1⟩ : ∃ o, Ln.ok ⟨k1, i1, h1, r1⟩ = o := ⟨_, rfl⟩
  have HY := Lib.hid hy
  have HK := Lib.hid hok1
  clear hy hok1
  unfold Ln.val
  go_wp2_with fail
  have b_3 := (Below.refl w1.heap.size w1).alloc (Nat.le_refl _) (.cells #[.int .i64 k1, .int .i64 i1, .bool h1, .bool r1] 25)
  have bX := Box.new w1 #[.int .i64 k1, .int .i64 i1, .bool h1, .bool r1] 25 rfl
  replace h := h.below b_3 (by omega)
  have z_4 := b_3.size
  replace hB := hB.trans (b_3.mono (by omega))
  clear b_3
  generalize w1.alloc _ = w3 at *
  generalize w1.heap.size = g3 at *
  have c1 := implDriveLine_any ⟨k1, i1, h1, r1⟩ b1 w3
  rw [HY.out, HK.out] at c1
  unfold Ln.val at c1
  refine (c1).mono ?_; rintro q_ w5 ⟨rfl, b_5⟩
  replace bX := bX.below b_5 bX.lt
  replace h := h.below b_5 (by omega)
  have z_6 := b_5.size
  replace hB := hB.trans (b_5.mono (by omega))
  clear b_5
  clear c1
  have bX_0 := bX.cell (j := 0) rfl
  have bX_1 := bX.cell (j := 1) rfl
  have bX_2 := bX.cell (j := 2) rfl
  have bX_3 := bX.cell (j := 3) rfl
  have bX_z := bX.frozen
  have bX_l := bX.lt
  go_wp2_with fail
  clear bX_0 bX_1 bX_2 bX_3 bX_z bX_l
  have b_7 := (Below.refl w5.heap.size w5).alloc (Nat.le_refl _) (.cells #[.int .i64 ky, .int .i64 iy, .bool hy_, .bool ry] 25)
  have bY := Box.new w5 #[.int .i64 ky, .int .i64 iy, .bool hy_, .bool ry] 25 rfl
  replace bX := bX.below b_7 bX.lt
  replace h := h.below b_7 (by omega)
  have z_8 := b_7.size
  replace hB := hB.trans (b_7.mono (by omega))
  clear b_7
  generalize w5.alloc _ = w7 at *
  generalize w5.heap.size = g7 at *
  have c1 := specDriveLine_any ⟨k1, i1, h1, r1⟩ b1 w7
  rw [HY.out, HK.out] at c1
  unfold Ln.val at c1
  refine (c1).mono ?_; rintro q_ w9 ⟨rfl, b_9⟩
  replace bX := bX.below b_9 bX.lt
  replace bY := bY.below b_9 bY.lt
  replace h := h.below b_9 (by omega)
  have z_10 := b_9.size
  replace hB := hB.trans (b_9.mono (by omega))
  clear b_9
  clear c1
  have bX_0 := bX.cell (j := 0) rfl
  have bX_1 := bX.cell (j := 1) rfl
  have bX_2 := bX.cell (j := 2) rfl
  have bX_3 := bX.cell (j := 3) rfl
  have bX_z := bX.frozen
  have bX_l := bX.lt
  have bY_0 := bY.cell (j := 0) rfl
  have bY_1 := bY.cell (j := 1) rfl
  have bY_2 := bY.cell (j := 2) rfl
  have bY_3 := bY.cell (j := 3) rfl
  have bY_z := bY.frozen
  have bY_l := bY.lt
  go_wp2_with fail
  clear bX_0 bX_1 bX_2 bX_3 bX_z bX_l bY_0 bY_1 bY_2 bY_3 bY_z bY_l
  have b_11 := (Below.refl w9.heap.size w9).alloc (Nat.le_refl _) (.cells #[.int .i64 ky, .int .i64 iy, .bool hy_, .bool ry] 25)
  have bW := Box.new w9 #[.int .i64 ky, .int .i64 iy, .bool hy_, .bool ry] 25 rfl
  replace bX := bX.below b_11 bX.lt
  replace bY := bY.below b_11 bY.lt
  replace h := h.below b_11 (by omega)
  have z_12 := b_11.size
  replace hB := hB.trans (b_11.mono (by omega))
  clear b_11
  generalize w9.alloc _ = w11 at *
  generalize w9.heap.size = g11 at *
  have c1 := implIsLine_any ⟨k1, i1, h1, r1⟩ w11
  rw [HK.out] at c1
  unfold Ln.val at c1
  refine (c1).mono ?_; rintro q_ w13 ⟨rfl, b_13⟩
  replace bX := bX.below b_13 bX.lt
  replace bY := bY.below b_13 bY.lt
  replace bW := bW.below b_13 bW.lt
  replace h := h.below b_13 (by omega)
  have z_14 := b_13.size
  replace hB := hB.trans (b_13.mono (by omega))
  clear b_13
  clear c1
  have bX_0 := bX.cell (j := 0) rfl
  have bX_1 := bX.cell (j := 1) rfl
  have bX_2 := bX.cell (j := 2) rfl
  have bX_3 := bX.cell (j := 3) rfl
  have bX_z := bX.frozen
  have bX_l := bX.lt
  have bY_0 := bY.cell (j := 0) rfl
  have bY_1 := bY.cell (j := 1) rfl
  have bY_2 := bY.cell (j := 2) rfl
  have bY_3 := bY.cell (j := 3) rfl
  have bY_z := bY.frozen
  have bY_l := bY.lt
  have bW_0 := bW.cell (j := 0) rfl
  have bW_1 := bW.cell (j := 1) rfl
  have bW_2 := bW.cell (j := 2) rfl
  have bW_3 := bW.cell (j := 3) rfl
  have bW_z := bW.frozen
  have bW_l := bW.lt
  go_upto_if 66 with fail
  clear bX_0 bX_1 bX_2 bX_3 bX_z bX_l bY_0 bY_1 bY_2 bY_3 bY_z bY_l bW_0 bW_1 bW_2 bW_3 bW_z bW_l
  go_cut [] (fun wx => Below w13.heap.size w13 wx)
  case first =>
    cases ok1
    · have bX_0 := bX.cell (j := 0) rfl
      have bX_1 := bX.cell (j := 1) rfl
      have bX_2 := bX.cell (j := 2) rfl
      have bX_3 := bX.cell (j := 3) rfl
      have bX_z := bX.frozen
      have bX_l := bX.lt
      have bY_0 := bY.cell (j := 0) rfl
      have bY_1 := bY.cell (j := 1) rfl
      have bY_2 := bY.cell (j := 2) rfl
      have bY_3 := bY.cell (j := 3) rfl
      have bY_z := bY.frozen
      have bY_l := bY.lt
      have bW_0 := bW.cell (j := 0) rfl
      have bW_1 := bW.cell (j := 1) rfl
      have bW_2 := bW.cell (j := 2) rfl
      have bW_3 := bW.cell (j := 3) rfl
      have bW_z := bW.frozen
      have bW_l := bW.lt
      go_wp2_with fail
      clear bX_0 bX_1 bX_2 bX_3 bX_z bX_l bY_0 bY_1 bY_2 bY_3 bY_z bY_l bW_0 bW_1 bW_2 bW_3 bW_z bW_l
      go_meet
      exact Below.refl _ _
    · have hBf := Below.refl w13.heap.size w13
      have hk := HK.out
      rcases Ln.ok_kind hk with h0 | h0
      · obtain rfl : k1 = 0 := h0
        cases r1
        · have hy : (⟨0, i1, h1, false⟩ : Ln).drive b1 = (⟨0, i1, b1, b1 && !h1⟩ : Ln) := by simp [Ln.drive]
          obtain ⟨rfl, rfl, rfl, rfl⟩ : (0 : Int) = ky ∧ i1 = iy ∧ b1 = hy_ ∧ (b1 && !h1) = ry := by have := HY.out; rw [Ln.driveR, if_pos hk, hy] at this; injection this with e1 e2 e3 e4; exact ⟨e1, e2, e3, e4⟩
          have e2 : Ln.driveR (⟨0, i1, b1, b1 && !h1⟩ : Ln) b1 = (⟨0, i1, b1, b1 && !h1⟩ : Ln) ∧ Ln.ok (⟨0, i1, b1, b1 && !h1⟩ : Ln) = true := by
            have ho : Ln.ok (⟨0, i1, b1, b1 && !h1⟩ : Ln) = true := by rw [← hy]; exact Ln.drive_ok b1 hk
            have ha := Ln.drive_again (⟨0, i1, h1, false⟩ : Ln) b1
            rw [hy] at ha
            simp [Ln.driveR, ho, ha]
          clear hy HY hk HK
          have bX_0 := bX.cell (j := 0) rfl
          have bX_1 := bX.cell (j := 1) rfl
          have bX_2 := bX.cell (j := 2) rfl
          have bX_3 := bX.cell (j := 3) rfl
          have bX_z := bX.frozen
          have bX_l := bX.lt
          have bY_0 := bY.cell (j := 0) rfl
          have bY_1 := bY.cell (j := 1) rfl
          have bY_2 := bY.cell (j := 2) rfl
          have bY_3 := bY.cell (j := 3) rfl
          have bY_z := bY.frozen
          have bY_l := bY.lt
          have bW_0 := bW.cell (j := 0) rfl
          have bW_1 := bW.cell (j := 1) rfl
          have bW_2 := bW.cell (j := 2) rfl
          have bW_3 := bW.cell (j := 3) rfl
          have bW_z := bW.frozen
          have bW_l := bW.lt
          go_wp2_with fail
          clear bX_0 bX_1 bX_2 bX_3 bX_z bX_l bY_0 bY_1 bY_2 bY_3 bY_z bY_l bW_0 bW_1 bW_2 bW_3 bW_z bW_l
          have c1 := implDriveLine_any (⟨0, i1, b1, b1 && !h1⟩ : Ln) b1 w13
          rw [e2.1, e2.2] at c1
          unfold Ln.val at c1
          refine (c1).mono ?_; rintro q_ w15 ⟨rfl, b_15⟩
          replace bX := bX.below b_15 bX.lt
          replace bY := bY.below b_15 bY.lt
          replace bW := bW.below b_15 bW.lt
          replace h := h.below b_15 (by omega)
          have z_16 := b_15.size
          replace hBf := hBf.trans (b_15.mono (by omega))
          clear b_15
          clear c1 e2
          have bX_0 := bX.cell (j := 0) rfl
          have bX_1 := bX.cell (j := 1) rfl
          have bX_2 := bX.cell (j := 2) rfl
          have bX_3 := bX.cell (j := 3) rfl
          have bX_z := bX.frozen
          have bX_l := bX.lt
          have bY_0 := bY.cell (j := 0) rfl
          have bY_1 := bY.cell (j := 1) rfl
          have bY_2 := bY.cell (j := 2) rfl
          have bY_3 := bY.cell (j := 3) rfl
          have bY_z := bY.frozen
          have bY_l := bY.lt
          have bW_0 := bW.cell (j := 0) rfl
          have bW_1 := bW.cell (j := 1) rfl
          have bW_2 := bW.cell (j := 2) rfl
          have bW_3 := bW.cell (j := 3) rfl
          have bW_z := bW.frozen
          have bW_l := bW.lt
          go_wp2_with fail
          clear bX_0 bX_1 bX_2 bX_3 bX_z bX_l bY_0 bY_1 bY_2 bY_3 bY_z bY_l bW_0 bW_1 bW_2 bW_3 bW_z bW_l
          go_meet
          exact hBf.alloc (by omega) _
        · have hy : (⟨0, i1, h1, true⟩ : Ln).drive b1 = (⟨0, i1, b1, true⟩ : Ln) := by simp [Ln.drive]
          obtain ⟨rfl, rfl, rfl, rfl⟩ : (0 : Int) = ky ∧ i1 = iy ∧ b1 = hy_ ∧ true = ry := by have := HY.out; rw [Ln.driveR, if_pos hk, hy] at this; injection this with e1 e2 e3 e4; exact ⟨e1, e2, e3, e4⟩
          have e2 : Ln.driveR (⟨0, i1, b1, true⟩ : Ln) b1 = (⟨0, i1, b1, true⟩ : Ln) ∧ Ln.ok (⟨0, i1, b1, true⟩ : Ln) = true := by
            have ho : Ln.ok (⟨0, i1, b1, true⟩ : Ln) = true := by rw [← hy]; exact Ln.drive_ok b1 hk
            have ha := Ln.drive_again (⟨0, i1, h1, true⟩ : Ln) b1
            rw [hy] at ha
            simp [Ln.driveR, ho, ha]
          clear hy HY hk HK
          have bX_0 := bX.cell (j := 0) rfl
          have bX_1 := bX.cell (j := 1) rfl
          have bX_2 := bX.cell (j := 2) rfl
          have bX_3 := bX.cell (j := 3) rfl
          have bX_z := bX.frozen
          have bX_l := bX.lt
          have bY_0 := bY.cell (j := 0) rfl
          have bY_1 := bY.cell (j := 1) rfl
          have bY_2 := bY.cell (j := 2) rfl
          have bY_3 := bY.cell (j := 3) rfl
          have bY_z := bY.frozen
          have bY_l := bY.lt
          have bW_0 := bW.cell (j := 0) rfl
          have bW_1 := bW.cell (j := 1) rfl
          have bW_2 := bW.cell (j := 2) rfl
          have bW_3 := bW.cell (j := 3) rfl
          have bW_z := bW.frozen
          have bW_l := bW.lt
          go_wp2_with fail
          clear bX_0 bX_1 bX_2 bX_3 bX_z bX_l bY_0 bY_1 bY_2 bY_3 bY_z bY_l bW_0 bW_1 bW_2 bW_3 bW_z bW_l
          have c1 := implDriveLine_any (⟨0, i1, b1, true⟩ : Ln) b1 w13
          rw [e2.1, e2.2] at c1
          unfold Ln.val at c1
          refine (c1).mono ?_; rintro q_ w15 ⟨rfl, b_15⟩
          replace bX := bX.below b_15 bX.lt
          replace bY := bY.below b_15 bY.lt
          replace bW := bW.below b_15 bW.lt
          replace h := h.below b_15 (by omega)
          have z_16 := b_15.size
          replace hBf := hBf.trans (b_15.mono (by omega))
          clear b_15
          clear c1 e2
          have bX_0 := bX.cell (j := 0) rfl
          have bX_1 := bX.cell (j := 1) rfl
          have bX_2 := bX.cell (j := 2) rfl
          have bX_3 := bX.cell (j := 3) rfl
          have bX_z := bX.frozen
          have bX_l := bX.lt
          have bY_0 := bY.cell (j := 0) rfl
          have bY_1 := bY.cell (j := 1) rfl
          have bY_2 := bY.cell (j := 2) rfl
          have bY_3 := bY.cell (j := 3) rfl
          have bY_z := bY.frozen
          have bY_l := bY.lt
          have bW_0 := bW.cell (j := 0) rfl
          have bW_1 := bW.cell (j := 1) rfl
          have bW_2 := bW.cell (j := 2) rfl
          have bW_3 := bW.cell (j := 3) rfl
          have bW_z := bW.frozen
          have bW_l := bW.lt
          go_wp2_with fail
          clear bX_0 bX_1 bX_2 bX_3 bX_z bX_l bY_0 bY_1 bY_2 bY_3 bY_z bY_l bW_0 bW_1 bW_2 bW_3 bW_z bW_l
          go_meet
          exact hBf.alloc (by omega) _
      · obtain rfl : k1 = 1 := h0
        have hy : (⟨1, i1, h1, r1⟩ : Ln).drive b1 = (⟨1, i1, b1, b1⟩ : Ln) := by simp [Ln.drive]
        obtain ⟨rfl, rfl, rfl, rfl⟩ : (1 : Int) = ky ∧ i1 = iy ∧ b1 = hy_ ∧ b1 = ry := by have := HY.out; rw [Ln.driveR, if_pos hk, hy] at this; injection this with e1 e2 e3 e4; exact ⟨e1, e2, e3, e4⟩
        have e2 : Ln.driveR (⟨1, i1, b1, b1⟩ : Ln) b1 = (⟨1, i1, b1, b1⟩ : Ln) ∧ Ln.ok (⟨1, i1, b1, b1⟩ : Ln) = true := by
          have ho : Ln.ok (⟨1, i1, b1, b1⟩ : Ln) = true := by rw [← hy]; exact Ln.drive_ok b1 hk
          have ha := Ln.drive_again (⟨1, i1, h1, r1⟩ : Ln) b1
          rw [hy] at ha
          simp [Ln.driveR, ho, ha]
        clear hy HY hk HK
        have bX_0 := bX.cell (j := 0) rfl
        have bX_1 := bX.cell (j := 1) rfl
        have bX_2 := bX.cell (j := 2) rfl
        have bX_3 := bX.cell (j := 3) rfl
        have bX_z := bX.frozen
        have bX_l := bX.lt
        have bY_0 := bY.cell (j := 0) rfl
        have bY_1 := bY.cell (j := 1) rfl
        have bY_2 := bY.cell (j := 2) rfl
        have bY_3 := bY.cell (j := 3) rfl
        have bY_z := bY.frozen
        have bY_l := bY.lt
        have bW_0 := bW.cell (j := 0) rfl
        have bW_1 := bW.cell (j := 1) rfl
        have bW_2 := bW.cell (j := 2) rfl
        have bW_3 := bW.cell (j := 3) rfl
        have bW_z := bW.frozen
        have bW_l := bW.lt
        go_wp2_with fail
        clear bX_0 bX_1 bX_2 bX_3 bX_z bX_l bY_0 bY_1 bY_2 bY_3 bY_z bY_l bW_0 bW_1 bW_2 bW_3 bW_z bW_l
        have c1 := implDriveLine_any (⟨1, i1, b1, b1⟩ : Ln) b1 w13
        rw [e2.1, e2.2] at c1
        unfold Ln.val at c1
        refine (c1).mono ?_; rintro q_ w15 ⟨rfl, b_15⟩
        replace bX := bX.below b_15 bX.lt
        replace bY := bY.below b_15 bY.lt
        replace bW := bW.below b_15 bW.lt
        replace h := h.below b_15 (by omega)
        have z_16 := b_15.size
        replace hBf := hBf.trans (b_15.mono (by omega))
        clear b_15
        clear c1 e2
        have bX_0 := bX.cell (j := 0) rfl
        have bX_1 := bX.cell (j := 1) rfl
        have bX_2 := bX.cell (j := 2) rfl
        have bX_3 := bX.cell (j := 3) rfl
        have bX_z := bX.frozen
        have bX_l := bX.lt
        have bY_0 := bY.cell (j := 0) rfl
        have bY_1 := bY.cell (j := 1) rfl
        have bY_2 := bY.cell (j := 2) rfl
        have bY_3 := bY.cell (j := 3) rfl
        have bY_z := bY.frozen
        have bY_l := bY.lt
        have bW_0 := bW.cell (j := 0) rfl
        have bW_1 := bW.cell (j := 1) rfl
        have bW_2 := bW.cell (j := 2) rfl
        have bW_3 := bW.cell (j := 3) rfl
        have bW_z := bW.frozen
        have bW_l := bW.lt
        go_wp2_with fail
        clear bX_0 bX_1 bX_2 bX_3 bX_z bX_l bY_0 bY_1 bY_2 bY_3 bY_z bY_l bW_0 bW_1 bW_2 bW_3 bW_z bW_l
        go_meet
        exact hBf.alloc (by omega) _
  case rest =>
    have hb := hcut
    replace bX := bX.below hb bX.lt
    replace bY := bY.below hb bY.lt
    replace bW := bW.below hb bW.lt
    replace h := h.below hb (by omega)
    have z_15 := hb.size
    replace hB := hB.trans (hb.mono (by omega))
    clear hb
    have bX_0 := bX.cell (j := 0) rfl
    have bX_1 := bX.cell (j := 1) rfl
    have bX_2 := bX.cell (j := 2) rfl
    have bX_3 := bX.cell (j := 3) rfl
    have bX_z := bX.frozen
    have bX_l := bX.lt
    have bY_0 := bY.cell (j := 0) rfl
    have bY_1 := bY.cell (j := 1) rfl
    have bY_2 := bY.cell (j := 2) rfl
    have bY_3 := bY.cell (j := 3) rfl
    have bY_z := bY.frozen
    have bY_l := bY.lt
    have bW_0 := bW.cell (j := 0) rfl
    have bW_1 := bW.cell (j := 1) rfl
    have bW_2 := bW.cell (j := 2) rfl
    have bW_3 := bW.cell (j := 3) rfl
    have bW_z := bW.frozen
    have bW_l := bW.lt
    go_wp2_with fail
    clear bX_0 bX_1 bX_2 bX_3 bX_z bX_l bY_0 bY_1 bY_2 bY_3 bY_z bY_l bW_0 bW_1 bW_2 bW_3 bW_z bW_l
    clear bX bY bW
    clear HY HK
    refine (DrawTakeLine_any cv l wc h (by omega)).mono ?_; rintro q_ w16 ⟨x2, rfl, b_16⟩
    replace h := h.below b_16 (by omega)
    have z_17 := b_16.size
    replace hB := hB.trans (b_16.mono (by omega))
    clear b_16
    obtain ⟨k2, i2, h2, r2⟩ := x2
    obtain ⟨u, hu⟩ : ∃ u, Ln.takeR ⟨k2, i2, h2, r2⟩ = u := ⟨_, rfl⟩
    obtain ⟨ku, iu, hu_, ru⟩ := u
    obtain ⟨tb, htb⟩ : ∃ tb, Ln.takeB ⟨k2, i2, h2, r2⟩ = tb := ⟨_, rfl⟩
    obtain ⟨ok2, hok2⟩ : ∃ o, Ln.ok ⟨k2, i2, h2, r2⟩ = o := ⟨_, rfl⟩
    have HU := Lib.hid hu
    have HTB := Lib.hid htb
    have HK2 := Lib.hid hok2
    clear hu htb hok2
    unfold Ln.val
    go_wp2_with fail
    have b_18 := (Below.refl w16.heap.size w16).alloc (Nat.le_refl _) (.cells #[.int .i64 k2, .int .i64 i2, .bool h2, .bool r2] 25)
    have bT := Box.new w16 #[.int .i64 k2, .int .i64 i2, .bool h2, .bool r2] 25 rfl
    replace h := h.below b_18 (by omega)
    have z_19 := b_18.size
    replace hB := hB.trans (b_18.mono (by omega))
    clear b_18
    generalize w16.alloc _ = w18 at *
    generalize w16.heap.size = g18 at *
    have c1 := implTakeLine_any ⟨k2, i2, h2, r2⟩ w18
    rw [HU.out, HTB.out, HK2.out] at c1
    unfold Ln.val at c1
    refine (c1).mono ?_; rintro q_ w20 ⟨rfl, b_20⟩
    replace bT := bT.below b_20 bT.lt
    replace h := h.below b_20 (by omega)
    have z_21 := b_20.size
    replace hB := hB.trans (b_20.mono (by omega))
    clear b_20
    clear c1
    have bT_0 := bT.cell (j := 0) rfl
    have bT_1 := bT.cell (j := 1) rfl
    have bT_2 := bT.cell (j := 2) rfl
    have bT_3 := bT.cell (j := 3) rfl
    have bT_z := bT.frozen
    have bT_l := bT.lt
    go_wp2_with fail
    clear bT_0 bT_1 bT_2 bT_3 bT_z bT_l
    have b_22 := (Below.refl w20.heap.size w20).alloc (Nat.le_refl _) (.cells #[.int .i64 ku, .int .i64 iu, .bool hu_, .bool ru] 25)
    have bU := Box.new w20 #[.int .i64 ku, .int .i64 iu, .bool hu_, .bool ru] 25 rfl
    replace bT := bT.below b_22 bT.lt
    replace h := h.below b_22 (by omega)
    have z_23 := b_22.size
    replace hB := hB.trans (b_22.mono (by omega))
    clear b_22
    generalize w20.alloc _ = w22 at *
    generalize w20.heap.size = g22 at *
    have c1 := specTakeLine_any ⟨k2, i2, h2, r2⟩ w22
    rw [HU.out, HTB.out, HK2.out] at c1
    unfold Ln.val at c1
    refine (c1).mono ?_; rintro q_ w24 ⟨rfl, b_24⟩
    replace bT := bT.below b_24 bT.lt
    replace bU := bU.below b_24 bU.lt
    replace h := h.below b_24 (by omega)
    have z_25 := b_24.size
    replace hB := hB.trans (b_24.mono (by omega))
    clear b_24
    clear c1
    have bT_0 := bT.cell (j := 0) rfl
    have bT_1 := bT.cell (j := 1) rfl
    have bT_2 := bT.cell (j := 2) rfl
    have bT_3 := bT.cell (j := 3) rfl
    have bT_z := bT.frozen
    have bT_l := bT.lt
    have bU_0 := bU.cell (j := 0) rfl
    have bU_1 := bU.cell (j := 1) rfl
    have bU_2 := bU.cell (j := 2) rfl
    have bU_3 := bU.cell (j := 3) rfl
    have bU_z := bU.frozen
    have bU_l := bU.lt
    go_upto_region 15 with fail
    clear bT_0 bT_1 bT_2 bT_3 bT_z bT_l bU_0 bU_1 bU_2 bU_3 bU_z bU_l
    have b_26 := (Below.refl w24.heap.size w24).alloc (Nat.le_refl _) (.cells #[.int .i64 ku, .int .i64 iu, .bool hu_, .bool ru] 25)
    have bV := Box.new w24 #[.int .i64 ku, .int .i64 iu, .bool hu_, .bool ru] 25 rfl
    replace bT := bT.below b_26 bT.lt
    replace bU := bU.below b_26 bU.lt
    replace h := h.below b_26 (by omega)
    have z_27 := b_26.size
    replace hB := hB.trans (b_26.mono (by omega))
    clear b_26
    generalize w24.alloc _ = w26 at *
    generalize w24.heap.size = g26 at *
    go_cut [143] (fun s143 wx => s143 = .bool false ∧ Below w26.heap.size w26 wx)
    case first =>
      cases ok2
      · have bT_0 := bT.cell (j := 0) rfl
        have bT_1 := bT.cell (j := 1) rfl
        have bT_2 := bT.cell (j := 2) rfl
        have bT_3 := bT.cell (j := 3) rfl
        have bT_z := bT.frozen
        have bT_l := bT.lt
        have bU_0 := bU.cell (j := 0) rfl
        have bU_1 := bU.cell (j := 1) rfl
        have bU_2 := bU.cell (j := 2) rfl
        have bU_3 := bU.cell (j := 3) rfl
        have bU_z := bU.frozen
        have bU_l := bU.lt
        have bV_0 := bV.cell (j := 0) rfl
        have bV_1 := bV.cell (j := 1) rfl
        have bV_2 := bV.cell (j := 2) rfl
        have bV_3 := bV.cell (j := 3) rfl
        have bV_z := bV.frozen
        have bV_l := bV.lt
        go_wp2_with fail
        clear bT_0 bT_1 bT_2 bT_3 bT_z bT_l bU_0 bU_1 bU_2 bU_3 bU_z bU_l bV_0 bV_1 bV_2 bV_3 bV_z bV_l
        go_meet
        exact ⟨rfl, Below.refl _ _⟩
      · rcases Ln.ok_kind HK2.out with h0 | h0
        · obtain rfl : k2 = 0 := h0
          obtain ⟨-, -, -, rfl⟩ : (0 : Int) = ku ∧ i2 = iu ∧ h2 = hu_ ∧ false = ru := by have := HU.out; simpa [Ln.takeR, HK2.out, Ln.take] using this
          have bT_0 := bT.cell (j := 0) rfl
          have bT_1 := bT.cell (j := 1) rfl
          have bT_2 := bT.cell (j := 2) rfl
          have bT_3 := bT.cell (j := 3) rfl
          have bT_z := bT.frozen
          have bT_l := bT.lt
          have bU_0 := bU.cell (j := 0) rfl
          have bU_1 := bU.cell (j := 1) rfl
          have bU_2 := bU.cell (j := 2) rfl
          have bU_3 := bU.cell (j := 3) rfl
          have bU_z := bU.frozen
          have bU_l := bU.lt
          have bV_0 := bV.cell (j := 0) rfl
          have bV_1 := bV.cell (j := 1) rfl
          have bV_2 := bV.cell (j := 2) rfl
          have bV_3 := bV.cell (j := 3) rfl
          have bV_z := bV.frozen
          have bV_l := bV.lt
          go_wp2_with fail
          clear bT_0 bT_1 bT_2 bT_3 bT_z bT_l bU_0 bU_1 bU_2 bU_3 bU_z bU_l bV_0 bV_1 bV_2 bV_3 bV_z bV_l
          go_meet
          exact ⟨rfl, Below.refl _ _⟩
        · obtain rfl : k2 = 1 := h0
          have bT_0 := bT.cell (j := 0) rfl
          have bT_1 := bT.cell (j := 1) rfl
          have bT_2 := bT.cell (j := 2) rfl
          have bT_3 := bT.cell (j := 3) rfl
          have bT_z := bT.frozen
          have bT_l := bT.lt
          have bU_0 := bU.cell (j := 0) rfl
          have bU_1 := bU.cell (j := 1) rfl
          have bU_2 := bU.cell (j := 2) rfl
          have bU_3 := bU.cell (j := 3) rfl
          have bU_z := bU.frozen
          have bU_l := bU.lt
          have bV_0 := bV.cell (j := 0) rfl
          have bV_1 := bV.cell (j := 1) rfl
          have bV_2 := bV.cell (j := 2) rfl
          have bV_3 := bV.cell (j := 3) rfl
          have bV_z := bV.frozen
          have bV_l := bV.lt
          go_wp2_with fail
          clear bT_0 bT_1 bT_2 bT_3 bT_z bT_l bU_0 bU_1 bU_2 bU_3 bU_z bU_l bV_0 bV_1 bV_2 bV_3 bV_z bV_l
          go_meet
          exact ⟨rfl, Below.refl _ _⟩
    case rest =>
      obtain ⟨rfl, hb⟩ := hcut
      replace bT := bT.below hb bT.lt
      replace bU := bU.below hb bU.lt
      replace bV := bV.below hb bV.lt
      replace h := h.below hb (by omega)
      have z_28 := hb.size
      replace hB := hB.trans (hb.mono (by omega))
      clear hb
      have bT_0 := bT.cell (j := 0) rfl
      have bT_1 := bT.cell (j := 1) rfl
      have bT_2 := bT.cell (j := 2) rfl
      have bT_3 := bT.cell (j := 3) rfl
      have bT_z := bT.frozen
      have bT_l := bT.lt
      have bU_0 := bU.cell (j := 0) rfl
      have bU_1 := bU.cell (j := 1) rfl
      have bU_2 := bU.cell (j := 2) rfl
      have bU_3 := bU.cell (j := 3) rfl
      have bU_z := bU.frozen
      have bU_l := bU.lt
      have bV_0 := bV.cell (j := 0) rfl
      have bV_1 := bV.cell (j := 1) rfl
      have bV_2 := bV.cell (j := 2) rfl
      have bV_3 := bV.cell (j := 3) rfl
      have bV_z := bV.frozen
      have bV_l := bV.lt
      go_wp2_with fail
      clear bT_0 bT_1 bT_2 bT_3 bT_z bT_l bU_0 bU_1 bU_2 bU_3 bU_z bU_l bV_0 bV_1 bV_2 bV_3 bV_z bV_l
      clear bT bU bV
      clear HU HTB HK2
      refine (DrawDriveLines_any cv l wc h (by omega)).mono ?_; rintro q_ w29 ⟨v3, u3, l3, b3, rfl, o3, q3, b_29⟩
      replace h := h.below b_29 (by omega)
      have z_30 := b_29.size
      replace hB := hB.trans (b_29.mono (by omega))
      clear b_29
      go_wp2_with fail
      refine (implDriveLines_any v3 l3 u3 b3 w29 o3.rd (by omega) q3.rd (by omega)).mono ?_; rintro q_ w31 ⟨r3, rfl, p3, _, b_31⟩
      replace h := h.below b_31 (by omega)
      replace o3 := o3.below b_31 (by omega)
      replace q3 := q3.below b_31 (by omega)
      have z_32 := b_31.size
      replace hB := hB.trans (b_31.mono (by omega))
      clear b_31
      go_wp2_with fail
      refine (specDriveLines_any v3 l3 u3 b3 w31 o3.rd (by omega) q3.rd (by omega)).mono ?_; rintro q_ w33 ⟨t3, rfl, s3, b_33⟩
      replace h := h.below b_33 (by omega)
      replace o3 := o3.below b_33 (by omega)
      replace q3 := q3.below b_33 (by omega)
      replace p3 := p3.below b_33 (by omega)
      have z_34 := b_33.size
      replace hB := hB.trans (b_33.mono (by omega))
      clear b_33
      go_wp2_with fail
      refine (Ln.v_same _ _ _ w33 p3.rd s3 (by omega) (by omega)).mono ?_; rintro q_ w35 ⟨rfl, b_35⟩
      replace h := h.below b_35 (by omega)
      replace o3 := o3.below b_35 (by omega)
      replace q3 := q3.below b_35 (by omega)
      replace p3 := p3.below b_35 (by omega)
      replace s3 := s3.below b_35 (by omega)
      have z_36 := b_35.size
      replace hB := hB.trans (b_35.mono (by omega))
      clear b_35
      clear p3 s3 o3 q3
      go_wp2_with fail
      refine (DrawPulseLine_any cv l w35 h (by omega)).mono ?_; rintro q_ w37 ⟨v4, l4, x4, y4, rfl, o4, b_37⟩
      replace h := h.below b_37 (by omega)
      have z_38 := b_37.size
      replace hB := hB.trans (b_37.mono (by omega))
      clear b_37
      cases hp : Ln.plOk l4 x4 y4
      · go_wp2_with fail
        have c1 := implPulseLine_any _ l4 x4 y4 w37 o4.rd (by omega)
        rw [hp] at c1
        refine (c1).mono ?_; rintro q_ w39 ⟨r4, rfl, p4, _, b_39⟩
        replace h := h.below b_39 (by omega)
        replace o4 := o4.below b_39 (by omega)
        have z_40 := b_39.size
        replace hB := hB.trans (b_39.mono (by omega))
        clear b_39
        go_wp2_with fail
        have c2 := specPulseLine_any _ l4 x4 y4 w39 o4.rd (by omega)
        rw [hp] at c2
        refine (c2).mono ?_; rintro q_ w41 ⟨t4, rfl, s4, b_41⟩
        replace h := h.below b_41 (by omega)
        replace o4 := o4.below b_41 (by omega)
        replace p4 := p4.below b_41 (by omega)
        have z_42 := b_41.size
        replace hB := hB.trans (b_41.mono (by omega))
        clear b_41
        clear hp c1 c2
        have c3 := Ln.v_same _ _ _ w41 p4.rd s4 (by omega) (by omega)
        generalize Ln.plN l4 x4 y4 = nn at *
        go_wp2_with fail
        refine (c3).mono ?_; rintro q_ w43 ⟨rfl, b_43⟩
        replace h := h.below b_43 (by omega)
        replace o4 := o4.below b_43 (by omega)
        replace p4 := p4.below b_43 (by omega)
        replace s4 := s4.below b_43 (by omega)
        have z_44 := b_43.size
        replace hB := hB.trans (b_43.mono (by omega))
        clear b_43
        clear c3
        go_wp2_with fail
        go_ret
        exact ⟨rfl, hB⟩
      · obtain ⟨k, t, rfl, hkl, ht, hkind⟩ := Ln.pl_one hp
        obtain ⟨A, n, c, rfl, H, hnc, hm⟩ := o4.rd.form
        have hkn : k < n := by rw [H.out]; exact hkl
        have hki : (k : Int) < (n : Int) := by omega
        have HT := Lib.hid ht
        clear ht hkl H
        go_wp2_with fail
        have c1 := implPulseLine_any _ l4 (k : Int) y4 w37 o4.rd (by omega)
        rw [hp] at c1
        refine (c1).mono ?_; rintro q_ w39 ⟨r4, rfl, p4, _, b_39⟩
        replace h := h.below b_39 (by omega)
        replace o4 := o4.below b_39 (by omega)
        have z_40 := b_39.size
        replace hB := hB.trans (b_39.mono (by omega))
        clear b_39
        go_wp2_with fail
        have c2 := specPulseLine_any _ l4 (k : Int) y4 w39 o4.rd (by omega)
        rw [hp] at c2
        refine (c2).mono ?_; rintro q_ w41 ⟨t4, rfl, s4, b_41⟩
        replace h := h.below b_41 (by omega)
        replace o4 := o4.below b_41 (by omega)
        replace p4 := p4.below b_41 (by omega)
        have z_42 := b_41.size
        replace hB := hB.trans (b_41.mono (by omega))
        clear b_41
        clear hp c1 c2
        have c3 := Ln.v_same _ _ _ w41 p4.rd s4 (by omega) (by omega)
        generalize Ln.plN l4 (k : Int) y4 = nn at *
        go_wp2_with fail
        refine (c3).mono ?_; rintro q_ w43 ⟨rfl, b_43⟩
        replace h := h.below b_43 (by omega)
        replace o4 := o4.below b_43 (by omega)
        replace p4 := p4.below b_43 (by omega)
        replace s4 := s4.below b_43 (by omega)
        have z_44 := b_43.size
        replace hB := hB.trans (b_43.mono (by omega))
        clear b_43
        clear c3
        obtain ⟨b, off, t', rfl, HT', _, hb2, f0, f1, f2, f3⟩ := Ln.get o4.rd hkn (Below.refl w43.heap.size w43) (by omega)
        obtain rfl := Option.some.inj (HT'.out.symm.trans HT.out)
        clear HT HT'
        rcases hkind with ⟨hk0, hn1⟩ | hk1
        · rw [hk0] at f0
          clear hk0
          have hnd : decide (nn ≤ 1) = true := decide_eq_true hn1
          go_wp2_with fail
          go_ret
          exact ⟨rfl, hB⟩
        · rw [hk1] at f0
          clear hk1
          go_wp2_with fail
          go_ret
          exact ⟨rfl, hB⟩

set_option maxRecDepth 100000 in
theorem FnLines_holds : Rows.FnLinesSaid :=
  OpenClaim.holds_of_wide 3 Try.f3 rfl rfl rfl rfl rfl rfl rfl ⟨rfl, rfl, rfl, rfl, rfl⟩ rfl rfl rfl rfl rfl (by kernel_rfl) Try.func3 (by kernel_rfl)
    (of_decide_eq_true (by kernel_rfl)) (by unfold Func.isWrapper; first | (rw [if_pos (by decide +kernel)]; kernel_rfl) | (rw [if_neg (by decide +kernel)]; exact ⟨rfl, rfl⟩))
    (fun os started H enc _ => law_lifted (C := Try.checked) (s := Rows.fnLinesSpec) own started (by kernel_rfl) Try.func3
      (ChangeSpec.witness6 (enc := enc) (C := Try.checked) false ⟨#[], #[.slice none 0 0], []⟩ 8 (by kernel_rfl) (by kernel_rfl) (by kernel_rfl) (by kernel_rfl))
      laidOut (by kernel_rfl) rfl rfl Try.underlying4 (fun ds h => by match ds, h with | [_], _ => rfl)
      (fun W base args ds p hval0 hA0 => by
        have hval : ∀ (j : Nat) t v, Try.f3.params[j]? = some t → args[j]? = some v → Value.okWide Try.prog W .any base t v := hval0
        have hA : DataW.TrodAll enc Try.prog W 0 (fun _ => true) true Try.f3.params.toList args.toList ds p := hA0
        rw [Try.params3] at hA hval
        obtain ⟨v0, vs0, d0, ds0, p0, q0, hargs, rfl, rfl, h0, r0⟩ := trodAll_cons hA
        obtain ⟨rfl, rfl, rfl⟩ := trodAll_nil r0
        obtain rfl : args = #[v0] := by cases args; simp_all
        obtain ⟨l, k0⟩ := By.openS (hval 0 22 v0 rfl rfl) h0
        exact FnLines_walk v0 l W k0))

end Go.Proofs.Ytgnalbfepkcokaa
