/- Taking and driving one line, in the program and in the reference. No condition. -/
import Derived.Test.YtgnalbfepkcokaaLn
import Derived.Test.YtgnalbfepkcokaaRegion
namespace Go.Proofs.Ytgnalbfepkcokaa
open Go.RowKit Go.ChangeShapes Go.WideShapes Go.Deep

theorem below_two (w : World) (o1 o2 : Obj) : Below w.heap.size w ((w.alloc o1).alloc o2) := ((Below.refl _ _).alloc (Nat.le_refl _) _).alloc (by simp) _

set_option maxHeartbeats 1000000 in
theorem implTakeLine_any (t : Ln) (w : World) : Calls Try.prog 13 #[t.val] w fun e w' => e = .returned (.tuple #[(Ln.takeR t).val, .bool (Ln.takeB t), .bool (Ln.ok t)]) ∧ Below w.heap.size w w' := by
  have c1 := fun W => implIsLine_any t W
  have c2 := fun W => taken_any t W
  cases hk : t.ok
  · have HF := Lib.hid (show Ln.takeR t = Ln.zero ∧ Ln.takeB t = false from by simp [Ln.takeR, Ln.takeB, hk])
    rw [hk] at c1
    unfold Ln.val at *
    clear hk c2
    go_enter Try.func13, Try.ntmps13
    go_wp2_with fail
    refine (c1 _).mono ?_; rintro e w1 ⟨rfl, hb1⟩
    have hB := (below_two w _ _).trans (hb1.mono (by simp; omega))
    simp only [World.size_alloc] at hb1; obtain ⟨hc1, hf1⟩ := bcell hb1
    have z1 : w.heap.size + 1 < w1.heap.size := by have := hb1.size; simp at this; omega
    have g0 : w1.cell? ⟨w.heap.size + 1, 0, none⟩ = some (.int .i64 0) := by rw [hc1 _ _ (by omega)]; simp
    have g1 : w1.cell? ⟨w.heap.size + 1, 1, none⟩ = some (.int .i64 0) := by rw [hc1 _ _ (by omega)]; simp
    have g2 : w1.cell? ⟨w.heap.size + 1, 2, none⟩ = some (.bool false) := by rw [hc1 _ _ (by omega)]; simp
    have g3 : w1.cell? ⟨w.heap.size + 1, 3, none⟩ = some (.bool false) := by rw [hc1 _ _ (by omega)]; simp
    go_wp2_with fail
    refine bodyPost_ret (by simp [results, Try.results13, go_sem, g0, g1, g2, g3]; rfl) rfl ?_
    exact ⟨by rw [HF.out.1, HF.out.2]; rfl, setL_below hB [.int .i64 0, .int .i64 0, .bool false, .bool false] (w.heap.size + 1) 0 (by omega)⟩
  · have HF := Lib.hid (show Ln.takeR t = t.take ∧ Ln.takeB t = t.raised from by simp [Ln.takeR, Ln.takeB, hk])
    rw [hk] at c1
    generalize t.take = r at HF c2
    unfold Ln.val at *
    clear hk
    go_enter Try.func13, Try.ntmps13
    go_wp2_with fail
    refine (c1 _).mono ?_; rintro e w1 ⟨rfl, hb1⟩
    have hB := (below_two w _ _).trans (hb1.mono (by simp; omega))
    simp only [World.size_alloc] at hb1; obtain ⟨hc1, hf1⟩ := bcell hb1
    have z1 : w.heap.size + 1 < w1.heap.size := by have := hb1.size; simp at this; omega
    have g0 : w1.cell? ⟨w.heap.size + 1, 0, none⟩ = some (.int .i64 0) := by rw [hc1 _ _ (by omega)]; simp
    have g1 : w1.cell? ⟨w.heap.size + 1, 1, none⟩ = some (.int .i64 0) := by rw [hc1 _ _ (by omega)]; simp
    have g2 : w1.cell? ⟨w.heap.size + 1, 2, none⟩ = some (.bool false) := by rw [hc1 _ _ (by omega)]; simp
    have g3 : w1.cell? ⟨w.heap.size + 1, 3, none⟩ = some (.bool false) := by rw [hc1 _ _ (by omega)]; simp
    go_wp2_with fail
    have k0 : w1.cell? ⟨w.heap.size, 0, none⟩ = some (.int .i64 t.kind) := by rw [hc1 _ _ (by omega)]; simp
    have k1 : w1.cell? ⟨w.heap.size, 1, none⟩ = some (.int .i64 t.irq) := by rw [hc1 _ _ (by omega)]; simp
    have k2 : w1.cell? ⟨w.heap.size, 2, none⟩ = some (.bool t.high) := by rw [hc1 _ _ (by omega)]; simp
    have k3 : w1.cell? ⟨w.heap.size, 3, none⟩ = some (.bool t.raised) := by rw [hc1 _ _ (by omega)]; simp
    have z0 : w.heap.size < w1.heap.size := by omega
    clear hc1 hb1
    go_region_with (go_at_call 73; refine (c2 _).mono ?_; rintro e w3 ⟨rfl, b3⟩; (try simp only [World.size_drew] at b3); obtain ⟨hc3, hf3⟩ := bcell b3; have z3 := b3.size)
    all_goals
      have hB3 := hB.drew.trans (b3.mono hB.size)
      replace g0 := (hc3 _ 0 z1).trans g0
      replace g1 := (hc3 _ 1 z1).trans g1
      replace g2 := (hc3 _ 2 z1).trans g2
      replace g3 := (hc3 _ 3 z1).trans g3
      go_wp2_with fail
      refine bodyPost_ret (by simp [results, Try.results13, go_sem, g0, g1, g2, g3]; rfl) rfl ?_
      exact ⟨by rw [HF.out.1, HF.out.2], setL_below hB3 [.int .i64 r.kind, .int .i64 r.irq, .bool r.high, .bool r.raised] (w.heap.size + 1) 0 (by omega)⟩

theorem implDriveLine_any (t : Ln) (h : Bool) (w : World) : Calls Try.prog 9 #[t.val, .bool h] w fun e w' => e = .returned (.tuple #[(Ln.driveR t h).val, .bool (Ln.ok t)]) ∧ Below w.heap.size w w' := by
  have c1 := fun W => implIsLine_any t W
  have c2 := fun W => driven_any t h W
  cases hk : t.ok
  · have HF := Lib.hid (show Ln.driveR t h = Ln.zero from by simp [Ln.driveR, hk])
    rw [hk] at c1
    unfold Ln.val at *
    clear hk c2
    go_enter Try.func9, Try.ntmps9
    go_wp2_with fail
    refine (c1 _).mono ?_; rintro e w1 ⟨rfl, hb1⟩
    have hB := (below_two w _ _).trans (hb1.mono (by simp; omega))
    simp only [World.size_alloc] at hb1; obtain ⟨hc1, hf1⟩ := bcell hb1
    have z1 : w.heap.size + 1 < w1.heap.size := by have := hb1.size; simp at this; omega
    have g0 : w1.cell? ⟨w.heap.size + 1, 0, none⟩ = some (.int .i64 0) := by rw [hc1 _ _ (by omega)]; simp
    have g1 : w1.cell? ⟨w.heap.size + 1, 1, none⟩ = some (.int .i64 0) := by rw [hc1 _ _ (by omega)]; simp
    have g2 : w1.cell? ⟨w.heap.size + 1, 2, none⟩ = some (.bool false) := by rw [hc1 _ _ (by omega)]; simp
    have g3 : w1.cell? ⟨w.heap.size + 1, 3, none⟩ = some (.bool false) := by rw [hc1 _ _ (by omega)]; simp
    go_wp2_with fail
    refine bodyPost_ret (by simp [results, Try.results9, go_sem, g0, g1, g2, g3]; rfl) rfl ?_
    exact ⟨by rw [HF.out]; rfl, setL_below hB [.int .i64 0, .int .i64 0, .bool false, .bool false] (w.heap.size + 1) 0 (by omega)⟩
  · have HF := Lib.hid (show Ln.driveR t h = t.drive h from by simp [Ln.driveR, hk])
    rw [hk] at c1
    generalize t.drive h = r at HF c2
    unfold Ln.val at *
    clear hk
    go_enter Try.func9, Try.ntmps9
    go_wp2_with fail
    refine (c1 _).mono ?_; rintro e w1 ⟨rfl, hb1⟩
    have hB := (below_two w _ _).trans (hb1.mono (by simp; omega))
    simp only [World.size_alloc] at hb1; obtain ⟨hc1, hf1⟩ := bcell hb1
    have z1 : w.heap.size + 1 < w1.heap.size := by have := hb1.size; simp at this; omega
    have g0 : w1.cell? ⟨w.heap.size + 1, 0, none⟩ = some (.int .i64 0) := by rw [hc1 _ _ (by omega)]; simp
    have g1 : w1.cell? ⟨w.heap.size + 1, 1, none⟩ = some (.int .i64 0) := by rw [hc1 _ _ (by omega)]; simp
    have g2 : w1.cell? ⟨w.heap.size + 1, 2, none⟩ = some (.bool false) := by rw [hc1 _ _ (by omega)]; simp
    have g3 : w1.cell? ⟨w.heap.size + 1, 3, none⟩ = some (.bool false) := by rw [hc1 _ _ (by omega)]; simp
    go_wp2_with fail
    refine (c2 _).mono ?_; rintro e w3 ⟨rfl, b3⟩
    have hB3 := hB.trans (b3.mono hB.size)
    obtain ⟨hc3, hf3⟩ := bcell b3
    replace g0 := (hc3 _ _ z1).trans g0
    replace g1 := (hc3 _ _ z1).trans g1
    replace g2 := (hc3 _ _ z1).trans g2
    replace g3 := (hc3 _ _ z1).trans g3
    have z3 := b3.size
    go_wp2_with fail
    refine bodyPost_ret (by simp [results, Try.results9, go_sem, g0, g1, g2, g3]; rfl) rfl ?_
    exact ⟨by rw [HF.out], setL_below hB3 [.int .i64 r.kind, .int .i64 r.irq, .bool r.high, .bool r.raised] (w.heap.size + 1) 0 (by omega)⟩

set_option maxHeartbeats 1000000 in
theorem specTakeLine_any (t : Ln) (w : World) : Calls Try.prog 14 #[t.val] w fun e w' => e = .returned (.tuple #[(Ln.takeR t).val, .bool (Ln.takeB t), .bool (Ln.ok t)]) ∧ Below w.heap.size w w' := by
  have c1 := fun W => l7One_any t W
  have c2 := fun W k => l7Take_any t W k
  cases hk : t.ok
  · have HF := Lib.hid (show Ln.takeR t = Ln.zero ∧ Ln.takeB t = false from by simp [Ln.takeR, Ln.takeB, hk])
    rw [hk] at c1
    unfold Ln.val at *
    clear hk c2
    go_enter Try.func14, Try.ntmps14
    go_wp2_with fail
    refine (c1 _).mono ?_; rintro e w1 ⟨rfl, hb1⟩
    have hB := (below_two w _ _).trans (hb1.mono (by simp; omega))
    simp only [World.size_alloc] at hb1; obtain ⟨hc1, hf1⟩ := bcell hb1
    have z1 : w.heap.size + 1 < w1.heap.size := by have := hb1.size; simp at this; omega
    have g0 : w1.cell? ⟨w.heap.size + 1, 0, none⟩ = some (.int .i64 0) := by rw [hc1 _ _ (by omega)]; simp
    have g1 : w1.cell? ⟨w.heap.size + 1, 1, none⟩ = some (.int .i64 0) := by rw [hc1 _ _ (by omega)]; simp
    have g2 : w1.cell? ⟨w.heap.size + 1, 2, none⟩ = some (.bool false) := by rw [hc1 _ _ (by omega)]; simp
    have g3 : w1.cell? ⟨w.heap.size + 1, 3, none⟩ = some (.bool false) := by rw [hc1 _ _ (by omega)]; simp
    go_wp2_with fail
    refine bodyPost_ret (by simp [results, Try.results14, go_sem, g0, g1, g2, g3]; rfl) rfl ?_
    exact ⟨by rw [HF.out.1, HF.out.2]; rfl, setL_below hB [.int .i64 0, .int .i64 0, .bool false, .bool false] (w.heap.size + 1) 0 (by omega)⟩
  · have HF := Lib.hid (show Ln.takeR t = t.take ∧ Ln.takeB t = t.raised from by simp [Ln.takeR, Ln.takeB, hk])
    replace c2 := fun W => c2 W hk
    rw [hk] at c1
    generalize t.take = r at HF c2
    unfold Ln.val at *
    clear hk
    go_enter Try.func14, Try.ntmps14
    go_wp2_with fail
    refine (c1 _).mono ?_; rintro e w1 ⟨rfl, hb1⟩
    have hB := (below_two w _ _).trans (hb1.mono (by simp; omega))
    simp only [World.size_alloc] at hb1; obtain ⟨hc1, hf1⟩ := bcell hb1
    have z1 : w.heap.size + 1 < w1.heap.size := by have := hb1.size; simp at this; omega
    have g0 : w1.cell? ⟨w.heap.size + 1, 0, none⟩ = some (.int .i64 0) := by rw [hc1 _ _ (by omega)]; simp
    have g1 : w1.cell? ⟨w.heap.size + 1, 1, none⟩ = some (.int .i64 0) := by rw [hc1 _ _ (by omega)]; simp
    have g2 : w1.cell? ⟨w.heap.size + 1, 2, none⟩ = some (.bool false) := by rw [hc1 _ _ (by omega)]; simp
    have g3 : w1.cell? ⟨w.heap.size + 1, 3, none⟩ = some (.bool false) := by rw [hc1 _ _ (by omega)]; simp
    go_wp2_with fail
    have k0 : w1.cell? ⟨w.heap.size, 0, none⟩ = some (.int .i64 t.kind) := by rw [hc1 _ _ (by omega)]; simp
    have k1 : w1.cell? ⟨w.heap.size, 1, none⟩ = some (.int .i64 t.irq) := by rw [hc1 _ _ (by omega)]; simp
    have k2 : w1.cell? ⟨w.heap.size, 2, none⟩ = some (.bool t.high) := by rw [hc1 _ _ (by omega)]; simp
    have k3 : w1.cell? ⟨w.heap.size, 3, none⟩ = some (.bool t.raised) := by rw [hc1 _ _ (by omega)]; simp
    have z0 : w.heap.size < w1.heap.size := by omega
    clear hc1 hb1
    go_region_with (go_at_call 74; refine (c2 _).mono ?_; rintro e w3 ⟨rfl, b3⟩; (try simp only [World.size_drew] at b3); obtain ⟨hc3, hf3⟩ := bcell b3; have z3 := b3.size)
    all_goals
      have hB3 := hB.drew.trans (b3.mono hB.size)
      replace g0 := (hc3 _ 0 z1).trans g0
      replace g1 := (hc3 _ 1 z1).trans g1
      replace g2 := (hc3 _ 2 z1).trans g2
      replace g3 := (hc3 _ 3 z1).trans g3
      go_wp2_with fail
      refine bodyPost_ret (by simp [results, Try.results14, go_sem, g0, g1, g2, g3]; rfl) rfl ?_
      exact ⟨by rw [HF.out.1, HF.out.2], setL_below hB3 [.int .i64 r.kind, .int .i64 r.irq, .bool r.high, .bool r.raised] (w.heap.size + 1) 0 (by omega)⟩

theorem specDriveLine_any (t : Ln) (h : Bool) (w : World) : Calls Try.prog 10 #[t.val, .bool h] w fun e w' => e = .returned (.tuple #[(Ln.driveR t h).val, .bool (Ln.ok t)]) ∧ Below w.heap.size w w' := by
  have c1 := fun W => l7One_any t W
  have c2 := fun W k => l7Drive_any t h W k
  cases hk : t.ok
  · have HF := Lib.hid (show Ln.driveR t h = Ln.zero from by simp [Ln.driveR, hk])
    rw [hk] at c1
    unfold Ln.val at *
    clear hk c2
    go_enter Try.func10, Try.ntmps10
    go_wp2_with fail
    refine (c1 _).mono ?_; rintro e w1 ⟨rfl, hb1⟩
    have hB := (below_two w _ _).trans (hb1.mono (by simp; omega))
    simp only [World.size_alloc] at hb1; obtain ⟨hc1, hf1⟩ := bcell hb1
    have z1 : w.heap.size + 1 < w1.heap.size := by have := hb1.size; simp at this; omega
    have g0 : w1.cell? ⟨w.heap.size + 1, 0, none⟩ = some (.int .i64 0) := by rw [hc1 _ _ (by omega)]; simp
    have g1 : w1.cell? ⟨w.heap.size + 1, 1, none⟩ = some (.int .i64 0) := by rw [hc1 _ _ (by omega)]; simp
    have g2 : w1.cell? ⟨w.heap.size + 1, 2, none⟩ = some (.bool false) := by rw [hc1 _ _ (by omega)]; simp
    have g3 : w1.cell? ⟨w.heap.size + 1, 3, none⟩ = some (.bool false) := by rw [hc1 _ _ (by omega)]; simp
    go_wp2_with fail
    refine bodyPost_ret (by simp [results, Try.results10, go_sem, g0, g1, g2, g3]; rfl) rfl ?_
    exact ⟨by rw [HF.out]; rfl, setL_below hB [.int .i64 0, .int .i64 0, .bool false, .bool false] (w.heap.size + 1) 0 (by omega)⟩
  · have HF := Lib.hid (show Ln.driveR t h = t.drive h from by simp [Ln.driveR, hk])
    replace c2 := fun W => c2 W hk
    rw [hk] at c1
    generalize t.drive h = r at HF c2
    unfold Ln.val at *
    clear hk
    go_enter Try.func10, Try.ntmps10
    go_wp2_with fail
    refine (c1 _).mono ?_; rintro e w1 ⟨rfl, hb1⟩
    have hB := (below_two w _ _).trans (hb1.mono (by simp; omega))
    simp only [World.size_alloc] at hb1; obtain ⟨hc1, hf1⟩ := bcell hb1
    have z1 : w.heap.size + 1 < w1.heap.size := by have := hb1.size; simp at this; omega
    have g0 : w1.cell? ⟨w.heap.size + 1, 0, none⟩ = some (.int .i64 0) := by rw [hc1 _ _ (by omega)]; simp
    have g1 : w1.cell? ⟨w.heap.size + 1, 1, none⟩ = some (.int .i64 0) := by rw [hc1 _ _ (by omega)]; simp
    have g2 : w1.cell? ⟨w.heap.size + 1, 2, none⟩ = some (.bool false) := by rw [hc1 _ _ (by omega)]; simp
    have g3 : w1.cell? ⟨w.heap.size + 1, 3, none⟩ = some (.bool false) := by rw [hc1 _ _ (by omega)]; simp
    go_wp2_with fail
    refine (c2 _).mono ?_; rintro e w3 ⟨rfl, b3⟩
    have hB3 := hB.trans (b3.mono hB.size)
    obtain ⟨hc3, hf3⟩ := bcell b3
    replace g0 := (hc3 _ _ z1).trans g0
    replace g1 := (hc3 _ _ z1).trans g1
    replace g2 := (hc3 _ _ z1).trans g2
    replace g3 := (hc3 _ _ z1).trans g3
    have z3 := b3.size
    go_wp2_with fail
    refine bodyPost_ret (by simp [results, Try.results10, go_sem, g0, g1, g2, g3]; rfl) rfl ?_
    exact ⟨by rw [HF.out], setL_below hB3 [.int .i64 r.kind, .int .i64 r.irq, .bool r.high, .bool r.raised] (w.heap.size + 1) 0 (by omega)⟩

end Go.Proofs.Ytgnalbfepkcokaa
