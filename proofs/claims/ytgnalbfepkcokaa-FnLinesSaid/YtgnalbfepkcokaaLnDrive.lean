/- Driving lines, in the program and in the reference. No condition. -/
import Derived.Test.YtgnalbfepkcokaaLnCount
import Derived.Test.YtgnalbfepkcokaaTyBool
import Derived.Test.YtgnalbfepkcokaaRegion2
namespace Go.Proofs.Ytgnalbfepkcokaa
open Go.RowKit Go.ChangeShapes Go.WideShapes Go.Deep

def Ln.drvOk (l : List Ln) (bl : List Bool) : Bool := Ln.good l && decide (bl.length = l.length)
def Ln.drvAll (l : List Ln) (bl : List Bool) : List Ln := List.zipWith Ln.drive l bl
def Ln.drvR (l : List Ln) (bl : List Bool) : List Ln := if Ln.drvOk l bl then Ln.drvAll l bl else []
theorem Ln.drvR_len (l : List Ln) (bl : List Bool) : (Ln.drvR l bl).length ≤ 1048576 := by
  unfold Ln.drvR Ln.drvOk Ln.drvAll; split
  · rename_i h; simp only [Bool.and_eq_true] at h; have := Ln.good_len h.1; rw [List.length_zipWith]; omega
  · simp
theorem Ln.drvAll_succ {l : List Ln} {bl : List Bool} {k : Nat} {t : Ln} {b : Bool} (h1 : l[k]? = some t) (h2 : bl[k]? = some b) : (Ln.drvAll l bl).take (k + 1) = (Ln.drvAll l bl).take k ++ [t.drive b] := by
  have : (Ln.drvAll l bl)[k]? = some (t.drive b) := by unfold Ln.drvAll; rw [List.getElem?_zipWith, h1, h2]
  rw [List.take_add_one, this]; rfl

set_option maxHeartbeats 1000000 in
theorem implDriveLines_any (v : Value) (l : List Ln) (v2 : Value) (bl : List Bool) (w : World) {lo hi lo2 hi2 : Nat} (h : Rd Ln.cells 4 w lo hi v l) (hh : hi ≤ w.heap.size) (h2 : Rd Bo.cells 1 w lo2 hi2 v2 bl) (hh2 : hi2 ≤ w.heap.size) :
    Calls Try.prog 16 #[v, v2] w fun r w' => ∃ v', r = .returned (.tuple #[v', .bool (Ln.drvOk l bl)]) ∧ Ow Ln.cells 4 25 w' w.heap.size w'.heap.size v' (Ln.drvR l bl) ∧ (Ln.drvR l bl).length ≤ 1048576 ∧ Below w.heap.size w w' := by
  have hlen := Ln.drvR_len l bl
  have c1 := implAreLines_any v l w h hh
  have hrd := h
  have hrd2 := h2
  obtain ⟨A, n, c, rfl, H, hc, hm⟩ := h.form
  obtain ⟨A2, n2, cap2, rfl, H2, hc2, hm2⟩ := h2.form
  cases hg : Ln.good l
  · have HF := Lib.hid (show Ln.drvOk l bl = false ∧ Ln.drvR l bl = [] from by simp [Ln.drvR, Ln.drvOk, hg])
    rw [hg] at c1
    clear hg
    go_enter Try.func16, Try.ntmps16
    go_wp2_with fail
    refine c1.mono ?_; rintro q w1 ⟨rfl, b1⟩
    go_wp2_with fail
    go_ret2
    exact ⟨_, by rw [HF.out.1]; rfl, by rw [HF.out.2]; exact Ow.nil_, hlen, b1⟩
  · by_cases hn : n2 = n
    · have HF := Lib.hid (show Ln.drvOk l bl = true ∧ Ln.drvR l bl = Ln.drvAll l bl from by simp [Ln.drvR, Ln.drvOk, hg, ← H.out, ← H2.out, hn])
      have hn6 := Ln.good_len hg
      rw [← H.out] at hn6
      have HL := Lib.hid (show (Ln.drvAll l bl).length = n from by unfold Ln.drvAll; rw [List.length_zipWith, ← H.out, ← H2.out]; omega)
      subst hn
      rw [hg] at c1
      have c3 := fun t b W => driven_any t b W
      unfold Ln.val at c3
      clear hg
      go_enter Try.func16, Try.ntmps16
      go_wp2_with fail
      refine c1.mono ?_; rintro q w1 ⟨rfl, b1⟩
      go_wp2_with fail
      have ho0 := own_empty w1 (base := w.heap.size) 25 4 b1.size
      have hb0 := b1.alloc b1.size (.cells #[] 25)
      generalize w1.alloc _ = w2 at ho0 hb0 ⊢
      go_loopw [6, 22] (fun v i wr => ∃ k : Nat, k ≤ n2 ∧ i = .int .i64 k ∧ Below w.heap.size w wr ∧ wr.ownsRow w.heap.size 25 4 v k (((Ln.drvAll l bl).take k).flatMap Ln.cells)) (fun _ i _ => n2 - (intOf i).toNat)
      case atStart => exact ⟨0, Nat.zero_le _, rfl, hb0, ho0⟩
      case round =>
        clear ho0 hb0
        obtain ⟨k, hk, rfl, hb, hown⟩ := hrel
        by_cases hlt : k < n2
        · obtain ⟨b, off, t, rfl, ht, _, hbl, f0, f1, f2, f3⟩ := Ln.get hrd hlt hb hh
          obtain ⟨b', off', y, rfl, hy, _, hbl', g0⟩ := Bo.get hrd2 hlt hb hh2
          have hbw : b < wr.heap.size := by have := hb.size; omega
          have hbw' : b' < wr.heap.size := by have := hb.size; omega
          have HM := Lib.hid (Ln.drvAll_succ ht.out hy.out)
          have c3 := fun W => c3 t y W
          generalize t.drive y = r at HM c3
          go_wp2_with fail
          have hb1 := hb.alloc hb.size (.cells #[.int .i64 t.kind, .int .i64 t.irq, .bool t.high, .bool t.raised] 25)
          have k0 : (wr.alloc (.cells #[.int .i64 t.kind, .int .i64 t.irq, .bool t.high, .bool t.raised] 25)).cell? ⟨wr.heap.size, 0, none⟩ = some (.int .i64 t.kind) := by simp
          have k1 : (wr.alloc (.cells #[.int .i64 t.kind, .int .i64 t.irq, .bool t.high, .bool t.raised] 25)).cell? ⟨wr.heap.size, 1, none⟩ = some (.int .i64 t.irq) := by simp
          have k2 : (wr.alloc (.cells #[.int .i64 t.kind, .int .i64 t.irq, .bool t.high, .bool t.raised] 25)).cell? ⟨wr.heap.size, 2, none⟩ = some (.bool t.high) := by simp
          have k3 : (wr.alloc (.cells #[.int .i64 t.kind, .int .i64 t.irq, .bool t.high, .bool t.raised] 25)).cell? ⟨wr.heap.size, 3, none⟩ = some (.bool t.raised) := by simp
          have k4 : (wr.alloc (.cells #[.int .i64 t.kind, .int .i64 t.irq, .bool t.high, .bool t.raised] 25)).cell? ⟨b', off' + k, none⟩ = some (.bool y) := by rw [World.cell?_alloc_lt _ _ _ hbw']; exact g0
          have ho2 := hown.alloc (.cells #[.int .i64 t.kind, .int .i64 t.irq, .bool t.high, .bool t.raised] 25)
          clear f0 f1 f2 f3 g0
          generalize wr.alloc _ = w4 at hb1 k0 k1 k2 k3 k4 ho2 ⊢
          have e0 := cell_ext k0; have e1 := cell_ext k1; have e2 := cell_ext k2; have e3 := cell_ext k3; have e4 := cell_ext k4
          refine wp_region_ext1 7 u6 (by omega) (by kernel_rfl) (by kernel_rfl) (by kernel_rfl) (by kernel_rfl) (fun _ _ _ h => h) (Or.inl ⟨rfl, by intro w; go_simp⟩) ?_
          simp only [Nat.reduceSub, List.take_succ_cons, List.take_zero, List.drop_succ_cons, List.drop_zero]
          repeat (quiet_step ((go_at_call 68; exact calls_ext (c3 _))))
          refine wpQuiet_nil ?_
          intro w5 b5
          clear e0 e1 e2 e3 e4 k0 k1 k2 k3 k4
          have ho5 := ho2.kept (World.grownBy.mk b5.os b5.tape b5.output b5.size (fun k hk _ => b5.block k hk) : w4.grownBy w5 none) (by cases hv : u6.ownBlock <;> simp)
          have hb5 := hb1.trans (b5.mono hb1.size)
          clear b5 ho2
          go_wp2_with (at_builtin; (refine Ln.app_one rfl _ _ rfl w.heap.size u6 k _ rfl (ho5.alloc _) (g := w5.heap.size) (c := 1) r rfl ?hc0 (by omega) (by rw [World.size_alloc]; exact Nat.le_succ_of_le hb5.size) ?_); (rotate_left); (intro v6 w6 hown6 hg6))
          go_roundw
          case rel =>
            refine ⟨k + 1, by omega, by go_num, (hb5.alloc hb5.size _).grown hg6 (by rw [World.size_alloc]; exact Nat.le_succ_of_le hb5.size) (fun j hj => (ho5.lt j hj).1), ?_⟩
            rw [HM.out, List.flatMap_append]
            simpa using hown6
          case measure => simp [intOf]; omega
          case hc0 =>
            intro j u hu
            exact cell_new _ _ _ rfl (by simpa [Ln.cells] using hu)
        · have hkn : k = n2 := by omega
          go_wp2_with fail
          go_ret2
          refine ⟨_, by rw [HF.out.1]; rfl, ?_, hlen, hb⟩
          rw [HF.out.2]
          rw [hkn, List.take_of_length_le (by rw [HL.out]; omega)] at hown
          exact Ow.of_own Ln.cells_len hown rfl HL.out.symm
    · have HF := Lib.hid (show Ln.drvOk l bl = false ∧ Ln.drvR l bl = [] from by simp [Ln.drvR, Ln.drvOk, ← H.out, ← H2.out, hn])
      rw [hg] at c1
      have hn' : (n2 : Int) ≠ n := by omega
      clear hg
      go_enter Try.func16, Try.ntmps16
      go_wp2_with fail
      refine c1.mono ?_; rintro q w1 ⟨rfl, b1⟩
      go_wp2_with fail
      go_ret2
      exact ⟨_, by rw [HF.out.1]; rfl, by rw [HF.out.2]; exact Ow.nil_, hlen, b1⟩

set_option maxHeartbeats 1000000 in
theorem specDriveLines_any (v : Value) (l : List Ln) (v2 : Value) (bl : List Bool) (w : World) {lo hi lo2 hi2 : Nat} (h : Rd Ln.cells 4 w lo hi v l) (hh : hi ≤ w.heap.size) (h2 : Rd Bo.cells 1 w lo2 hi2 v2 bl) (hh2 : hi2 ≤ w.heap.size) :
    Calls Try.prog 17 #[v, v2] w fun r w' => ∃ v', r = .returned (.tuple #[v', .bool (Ln.drvOk l bl)]) ∧ Rd Ln.cells 4 w' 0 w'.heap.size v' (Ln.drvR l bl) ∧ Below w.heap.size w w' := by
  have hb0 := (Below.refl w.heap.size w).alloc (Nat.le_refl _) (.cells #[] 25)
  have c1 := l7Good_any v l (w.alloc (.cells #[] 25)) (h.below hb0 hh) (by simp; omega)
  have ho0 := own_empty w (base := w.heap.size) 25 4 (Nat.le_refl _)
  have hrd := h
  have hrd2 := h2
  obtain ⟨A, n, c, rfl, H, hc, hm⟩ := h.form
  obtain ⟨A2, n2, cap2, rfl, H2, hc2, hm2⟩ := h2.form
  cases hg : Ln.good l
  · have HF := Lib.hid (show Ln.drvOk l bl = false ∧ Ln.drvR l bl = [] from by simp [Ln.drvR, Ln.drvOk, hg])
    rw [hg] at c1
    clear hg
    go_enter Try.func17, Try.ntmps17
    go_wp2_with fail
    refine c1.mono ?_; rintro q w1 ⟨rfl, b1⟩
    go_wp2_with fail
    go_ret2
    exact ⟨_, by rw [HF.out.1]; rfl, by rw [HF.out.2]; exact Rd.empty (by decide), hb0.trans (b1.mono (by simp))⟩
  · by_cases hn : n2 = n
    · have HF := Lib.hid (show Ln.drvOk l bl = true ∧ Ln.drvR l bl = Ln.drvAll l bl from by simp [Ln.drvR, Ln.drvOk, hg, ← H.out, ← H2.out, hn])
      have hn6 := Ln.good_len hg
      rw [← H.out] at hn6
      have HG := Lib.hid hg
      have HL := Lib.hid (show (Ln.drvAll l bl).length = n from by unfold Ln.drvAll; rw [List.length_zipWith, ← H.out, ← H2.out]; omega)
      subst hn
      rw [hg] at c1
      have c3 := fun t b W hk => l7Drive_any t b W hk
      unfold Ln.val at c3
      clear hg
      go_enter Try.func17, Try.ntmps17
      go_wp2_with fail
      refine c1.mono ?_; rintro q w1 ⟨rfl, b1⟩
      go_wp2_with fail
      replace ho0 := ho0.kept (World.grownBy.mk b1.os b1.tape b1.output b1.size (fun k hk _ => b1.block k hk) : (w.alloc (.cells #[] 25)).grownBy w1 none) (by simp [Value.ownBlock])
      replace hb0 := hb0.trans (b1.mono (by simp))
      clear b1 c1
      go_loopw [6, 7] (fun v i wr => ∃ k : Nat, k ≤ n2 ∧ i = .int .i64 k ∧ Below w.heap.size w wr ∧ wr.ownsRow w.heap.size 25 4 v k (((Ln.drvAll l bl).take k).flatMap Ln.cells)) (fun _ i _ => n2 - (intOf i).toNat)
      case atStart => exact ⟨0, Nat.zero_le _, rfl, hb0, ho0⟩
      case round =>
        clear ho0 hb0
        obtain ⟨k, hk, rfl, hb, hown⟩ := hrel
        by_cases hlt : k < n2
        · obtain ⟨b, off, t, rfl, ht, _, hbl, f0, f1, f2, f3⟩ := Ln.get hrd hlt hb hh
          obtain ⟨b', off', y, rfl, hy, _, hbl', g0⟩ := Bo.get hrd2 hlt hb hh2
          have HM := Lib.hid (Ln.drvAll_succ ht.out hy.out)
          have c3 := fun W => c3 t y W (Ln.good_ok HG.out ht.out)
          generalize t.drive y = r at HM c3
          go_wp2_with fail
          have e0 := cell_ext f0; have e1 := cell_ext f1; have e2 := cell_ext f2; have e3 := cell_ext f3; have e4 := cell_ext g0
          refine wp_region_ext1 10 u6 (by omega) (by kernel_rfl) (by kernel_rfl) (by kernel_rfl) (by kernel_rfl) (fun _ _ _ h => h) (Or.inl ⟨rfl, by intro w; go_simp⟩) ?_
          simp only [Nat.reduceSub, List.take_succ_cons, List.take_zero, List.drop_succ_cons, List.drop_zero]
          repeat (quiet_step ((go_at_call 70; exact calls_ext (c3 _))))
          refine wpQuiet_nil ?_
          intro w5 b5
          clear e0 e1 e2 e3 e4 f0 f1 f2 f3 g0
          have ho5 := hown.kept (World.grownBy.mk b5.os b5.tape b5.output b5.size (fun k hk _ => b5.block k hk) : wr.grownBy w5 none) (by cases hv : u6.ownBlock <;> simp)
          have hb5 := hb.trans (b5.mono hb.size)
          clear b5
          go_wp2_with (at_builtin; (refine Ln.app_one rfl _ _ rfl w.heap.size u6 k _ rfl (ho5.alloc _) (g := w5.heap.size) (c := 1) r rfl ?hc0 (by omega) (by rw [World.size_alloc]; exact Nat.le_succ_of_le hb5.size) ?_); (rotate_left); (intro v6 w6 hown6 hg6))
          go_roundw
          case rel =>
            refine ⟨k + 1, by omega, by go_num, (hb5.alloc hb5.size _).grown hg6 (by rw [World.size_alloc]; exact Nat.le_succ_of_le hb5.size) (fun j hj => (ho5.lt j hj).1), ?_⟩
            rw [HM.out, List.flatMap_append]
            simpa using hown6
          case measure => simp [intOf]; omega
          case hc0 =>
            intro j u hu
            exact cell_new _ _ _ rfl (by simpa [Ln.cells] using hu)
        · have hkn : k = n2 := by omega
          go_wp2_with fail
          go_ret2
          refine ⟨_, by rw [HF.out.1]; rfl, ?_, hb⟩
          rw [HF.out.2]
          rw [hkn, List.take_of_length_le (by rw [HL.out]; omega)] at hown
          exact (Ow.of_own Ln.cells_len hown rfl HL.out.symm).rd.mono (Nat.zero_le _) (Nat.le_refl _)
    · have HF := Lib.hid (show Ln.drvOk l bl = false ∧ Ln.drvR l bl = [] from by simp [Ln.drvR, Ln.drvOk, ← H.out, ← H2.out, hn])
      rw [hg] at c1
      have hn' : (n2 : Int) ≠ n := by omega
      clear hg
      go_enter Try.func17, Try.ntmps17
      go_wp2_with fail
      refine c1.mono ?_; rintro q w1 ⟨rfl, b1⟩
      go_wp2_with fail
      go_ret2
      exact ⟨_, by rw [HF.out.1]; rfl, by rw [HF.out.2]; exact Rd.empty (by decide), hb0.trans (b1.mono (by simp))⟩

end Go.Proofs.Ytgnalbfepkcokaa
