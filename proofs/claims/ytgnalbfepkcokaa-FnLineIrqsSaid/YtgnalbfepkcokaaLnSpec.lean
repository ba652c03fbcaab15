/- The shared and the mixed interrupts of lines, in the reference. No condition. -/
import Derived.Test.YtgnalbfepkcokaaLnIrqs
namespace Go.Proofs.Ytgnalbfepkcokaa
open Go.RowKit Go.ChangeShapes Go.WideShapes Go.Deep

def Ln.atK (i k : Int) (x : Ln) : Bool := x.irq == i && x.kind == k
theorem Ln.count_kinds (i : Int) : ∀ l : List Ln, l.all Ln.ok = true → l.countP (Ln.at_ i) = l.countP (Ln.atK i 0) + l.countP (Ln.atK i 1)
  | [], _ => rfl
  | x :: l, h => by
    simp only [List.all_cons, Bool.and_eq_true] at h
    have h1 := Ln.count_kinds i l h.2
    have h2 := Ln.ok_kind h.1
    simp only [List.countP_cons, h1]
    rcases h2 with h2 | h2 <;> cases hq : x.irq == i <;> simp [Ln.at_, Ln.atK, h2, hq] <;> omega
theorem Ln.good_all {l : List Ln} (h : Ln.good l = true) : l.all Ln.ok = true := by
  simp only [Ln.good, Bool.and_eq_true] at h; exact h.2

theorem l7Count_any (v : Value) (l : List Ln) (i k : Int) (w : World) {lo hi : Nat} (h : Rd Ln.cells 4 w lo hi v l) (hh : hi ≤ w.heap.size) :
    Calls Try.prog 97 #[v, .int .i64 i, .int .i64 k] w fun e w' => e = .returned (.int .i64 (l.countP (Ln.atK i k))) ∧ w = w' := by
  obtain ⟨A, n, c, rfl, H, hc, hm⟩ := h.form
  go_enter Try.func97, Try.ntmps97
  go_wp2_with fail
  go_loop [7, 8] (fun q j => ∃ m : Nat, m ≤ n ∧ j = .int .i64 m ∧ q = .int .i64 ((l.take m).countP (Ln.atK i k))) (fun _ j => n - (intOf j).toNat)
  case atStart => exact ⟨0, Nat.zero_le _, rfl, rfl⟩
  case round =>
    obtain ⟨m, hk, rfl, rfl⟩ := hrel
    have hq1 : (l.take m).countP (Ln.atK i k) ≤ m := Nat.le_trans List.countP_le_length (by rw [List.length_take]; omega)
    by_cases hlt : m < n
    · obtain ⟨b, off, x, rfl, hx, _, hbl, f0, f1, f2, f3⟩ := Ln.get h hlt (Below.refl w.heap.size w) hh
      have hs : (l.take (m + 1)).countP (Ln.atK i k) = (l.take m).countP (Ln.atK i k) + if Ln.atK i k x = true then 1 else 0 := by
        rw [List.take_add_one, hx.out, List.countP_append]; simp
      generalize (l.take m).countP (Ln.atK i k) = q at hs hq1 ⊢
      by_cases h1 : x.irq = i
      · by_cases h2 : x.kind = k
        · have HF := Lib.hid (show (l.take (m + 1)).countP (Ln.atK i k) = q + 1 from by rw [hs]; simp [Ln.atK, h1, h2])
          clear hs
          go_wp2_with fail
          go_round
          case rel => exact ⟨m + 1, by omega, by go_num, by rw [HF.out]; simp⟩
          case measure => simp [intOf]; omega
        · have HF := Lib.hid (show (l.take (m + 1)).countP (Ln.atK i k) = q from by rw [hs]; simp [Ln.atK, h1, h2])
          clear hs
          go_wp2_with fail
          go_round
          case rel => exact ⟨m + 1, by omega, by go_num, by rw [HF.out]⟩
          case measure => simp [intOf]; omega
      · have HF := Lib.hid (show (l.take (m + 1)).countP (Ln.atK i k) = q from by rw [hs]; simp [Ln.atK, h1])
        clear hs
        go_wp2_with fail
        go_round
        case rel => exact ⟨m + 1, by omega, by go_num, by rw [HF.out]⟩
        case measure => simp [intOf]; omega
    · go_wp2_with fail
      go_ret
      exact ⟨ret_int (by rw [List.take_of_length_le (by rw [← H.out]; omega)]), rfl⟩
theorem specShared_at {l : List Ln} (hg : Ln.good l = true) (i : Nat) : Ln.sharedP l i = decide (2 ≤ (l.countP (Ln.atK i 0)) + (l.countP (Ln.atK i 1))) := by
  have h := Ln.count_kinds i l (Ln.good_all hg)
  have h0 : Ln.atE i = Ln.atK i 0 := rfl
  unfold Ln.sharedP
  rw [h]
set_option maxHeartbeats 1000000 in
theorem specSharedIrqs_any (v : Value) (l : List Ln) (w : World) {lo hi : Nat} (h : Rd Ln.cells 4 w lo hi v l) (hh : hi ≤ w.heap.size) :
    Calls Try.prog 34 #[v] w fun r w' => ∃ v', r = .returned (.tuple #[v', .bool (Ln.good l)]) ∧ Rd Nm.cells 1 w' 0 w'.heap.size v' (Ln.irqsR Ln.sharedP l) ∧ Below w.heap.size w w' := by
  have hb0 := (Below.refl w.heap.size w).alloc (Nat.le_refl _) (.cells #[] 3)
  have c1 := l7Good_any v l (w.alloc (.cells #[] 3)) (h.below hb0 hh) (by simp; omega)
  have hrd := h
  have hv := h.form
  have c2 := fun (i : Nat) (W : World) (k : Below w.heap.size w W) => l7Count_any v l i 0 W (h.below k hh) (Nat.le_trans hh k.size)
  have c3 := fun (i : Nat) (W : World) (k : Below w.heap.size w W) => l7Count_any v l i 1 W (h.below k hh) (Nat.le_trans hh k.size)
  obtain ⟨A, n, c, rfl, H, hc, hm⟩ := hv
  have hf0 := own_empty w (base := w.heap.size) 3 1 (Nat.le_refl _)
  cases hg : Ln.good l
  · have HF := Lib.hid (show Ln.irqsR Ln.sharedP l = [] from by simp [Ln.irqsR, hg])
    rw [hg] at c1
    clear hg c2 c3
    go_enter Try.func34, Try.ntmps34
    go_wp2_with fail
    refine c1.mono ?_; rintro q w1 ⟨rfl, b1⟩
    go_wp2_with fail
    go_ret2
    exact ⟨_, rfl, by rw [HF.out]; exact Rd.empty (by decide), hb0.trans (b1.mono (by simp))⟩
  · have HF := Lib.hid (show Ln.irqsR Ln.sharedP l = irqsL (Ln.sharedP l) 8 from by simp [Ln.irqsR, hg])
    have HA := Lib.hid (specShared_at hg)
    have hn6 := Ln.good_len hg
    rw [← H.out] at hn6
    rw [hg] at c1
    clear hg
    go_enter Try.func34, Try.ntmps34
    go_wp2_with fail
    refine c1.mono ?_; rintro q w1 ⟨rfl, b1⟩
    go_wp2_with fail
    replace hf0 := hf0.kept (World.grownBy.mk b1.os b1.tape b1.output b1.size (fun k hk _ => b1.block k hk) : (w.alloc (.cells #[] 3)).grownBy w1 none) (by simp [Value.ownBlock])
    replace hb0 := hb0.trans (b1.mono (by simp))
    clear b1 c1
    go_loopw [4, 5] (fun v i wr => ∃ (k m : Nat), k ≤ 8 ∧ i = .int .i64 k ∧ m = (irqsL (Ln.sharedP l) k).length ∧ Below w.heap.size w wr ∧ wr.ownsRow w.heap.size 3 1 v m ((irqsL (Ln.sharedP l) k).flatMap Nm.cells)) (fun _ i _ => 8 - (intOf i).toNat)
    case atStart => exact ⟨0, 0, Nat.zero_le _, rfl, rfl, hb0, hf0⟩
    case round =>
      clear hf0 hb0
      obtain ⟨k, m, hk, rfl, hm, hb, hf⟩ := hrel
      by_cases hlt : k < 8
      · have c2 := c2 k wr hb
        have c3 := c3 k wr hb
        have hs := irqsL_succ (Ln.sharedP l) k
        have ha := HA.out k
        have hq1 : l.countP (Ln.atK k 0) ≤ n := by rw [H.out]; exact List.countP_le_length
        have hq2 : l.countP (Ln.atK k 1) ≤ n := by rw [H.out]; exact List.countP_le_length
        have hm8 : m ≤ 8 := by rw [hm]; exact Nat.le_trans (irqsL_len _ k) hk
        have HM := Lib.hid hm
        clear hm HA
        generalize l.countP (Ln.atK k 0) = q at c2 ha hq1
        generalize l.countP (Ln.atK k 1) = q2 at c3 ha hq2
        by_cases hq : 2 ≤ q + q2
        · have HF2 := Lib.hid (show irqsL (Ln.sharedP l) (k + 1) = irqsL (Ln.sharedP l) k ++ [(k : Int)] from by rw [hs, ha]; simp [hq])
          clear ha hs
          go_wp2_with fail
          refine c2.mono ?_; rintro e w1 ⟨rfl, rfl⟩
          go_wp2_with fail
          refine c3.mono ?_; rintro e w1 ⟨rfl, rfl⟩
          go_wp2_with (at_builtin; (refine Nm.app_one rfl _ _ rfl w.heap.size u4 m _ rfl (hf.alloc _) (g := wr.heap.size) (c := 1) (k : Int) rfl ?hc0 (by omega) (by have := hb.size; simp <;> omega) ?_); (rotate_left); (intro v3 w3 hf3 hg3))
          go_roundw
          case rel =>
            refine ⟨k + 1, m + 1, by omega, by go_num, by rw [HF2.out, List.length_append, HM.out]; rfl, (hb.alloc hb.size _).grown hg3 (by have := hb.size; simp <;> omega) (fun j hj => (hf.lt j hj).1), ?_⟩
            rw [HF2.out, List.flatMap_append]
            exact hf3
          case measure => simp [intOf]; omega
          case hc0 =>
            intro j u hu
            simpa [Nm.cells] using hu
        · have HF2 := Lib.hid (show irqsL (Ln.sharedP l) (k + 1) = irqsL (Ln.sharedP l) k from by rw [hs, ha]; simp [hq])
          clear ha hs
          go_wp2_with fail
          refine c2.mono ?_; rintro e w1 ⟨rfl, rfl⟩
          go_wp2_with fail
          refine c3.mono ?_; rintro e w1 ⟨rfl, rfl⟩
          go_wp2_with fail
          go_roundw
          case rel => exact ⟨k + 1, m, by omega, by go_num, by rw [HF2.out, HM.out], hb, by rw [HF2.out]; exact hf⟩
          case measure => simp [intOf]; omega
      · have hk8 : k = 8 := by omega
        subst hk8
        go_wp2_with fail
        go_ret2
        refine ⟨_, rfl, ?_, hb⟩
        rw [HF.out]
        exact (Ow.of_own Nm.cells_len hf rfl hm).rd.mono (Nat.zero_le _) (Nat.le_refl _)
theorem specMixed_at {l : List Ln} (hg : Ln.good l = true) (i : Nat) : Ln.mixedP l i = (decide (0 < (l.countP (Ln.atK i 0))) && decide (0 < (l.countP (Ln.atK i 1)))) := by
  have h := Ln.count_kinds i l (Ln.good_all hg)
  have h0 : Ln.atE i = Ln.atK i 0 := rfl
  unfold Ln.mixedP
  rw [h, h0]; apply Bool.eq_iff_iff.2; simp
set_option maxHeartbeats 1000000 in
theorem specMixedIrqs_any (v : Value) (l : List Ln) (w : World) {lo hi : Nat} (h : Rd Ln.cells 4 w lo hi v l) (hh : hi ≤ w.heap.size) :
    Calls Try.prog 33 #[v] w fun r w' => ∃ v', r = .returned (.tuple #[v', .bool (Ln.good l)]) ∧ Rd Nm.cells 1 w' 0 w'.heap.size v' (Ln.irqsR Ln.mixedP l) ∧ Below w.heap.size w w' := by
  have hb0 := (Below.refl w.heap.size w).alloc (Nat.le_refl _) (.cells #[] 3)
  have c1 := l7Good_any v l (w.alloc (.cells #[] 3)) (h.below hb0 hh) (by simp; omega)
  have hrd := h
  have hv := h.form
  have c2 := fun (i : Nat) (W : World) (k : Below w.heap.size w W) => l7Count_any v l i 0 W (h.below k hh) (Nat.le_trans hh k.size)
  have c3 := fun (i : Nat) (W : World) (k : Below w.heap.size w W) => l7Count_any v l i 1 W (h.below k hh) (Nat.le_trans hh k.size)
  obtain ⟨A, n, c, rfl, H, hc, hm⟩ := hv
  have hf0 := own_empty w (base := w.heap.size) 3 1 (Nat.le_refl _)
  cases hg : Ln.good l
  · have HF := Lib.hid (show Ln.irqsR Ln.mixedP l = [] from by simp [Ln.irqsR, hg])
    rw [hg] at c1
    clear hg c2 c3
    go_enter Try.func33, Try.ntmps33
    go_wp2_with fail
    refine c1.mono ?_; rintro q w1 ⟨rfl, b1⟩
    go_wp2_with fail
    go_ret2
    exact ⟨_, rfl, by rw [HF.out]; exact Rd.empty (by decide), hb0.trans (b1.mono (by simp))⟩
  · have HF := Lib.hid (show Ln.irqsR Ln.mixedP l = irqsL (Ln.mixedP l) 8 from by simp [Ln.irqsR, hg])
    have HA := Lib.hid (specMixed_at hg)
    have hn6 := Ln.good_len hg
    rw [← H.out] at hn6
    rw [hg] at c1
    clear hg
    go_enter Try.func33, Try.ntmps33
    go_wp2_with fail
    refine c1.mono ?_; rintro q w1 ⟨rfl, b1⟩
    go_wp2_with fail
    replace hf0 := hf0.kept (World.grownBy.mk b1.os b1.tape b1.output b1.size (fun k hk _ => b1.block k hk) : (w.alloc (.cells #[] 3)).grownBy w1 none) (by simp [Value.ownBlock])
    replace hb0 := hb0.trans (b1.mono (by simp))
    clear b1 c1
    go_loopw [4, 5] (fun v i wr => ∃ (k m : Nat), k ≤ 8 ∧ i = .int .i64 k ∧ m = (irqsL (Ln.mixedP l) k).length ∧ Below w.heap.size w wr ∧ wr.ownsRow w.heap.size 3 1 v m ((irqsL (Ln.mixedP l) k).flatMap Nm.cells)) (fun _ i _ => 8 - (intOf i).toNat)
    case atStart => exact ⟨0, 0, Nat.zero_le _, rfl, rfl, hb0, hf0⟩
    case round =>
      clear hf0 hb0
      obtain ⟨k, m, hk, rfl, hm, hb, hf⟩ := hrel
      by_cases hlt : k < 8
      · have c2 := c2 k wr hb
        have c3 := c3 k wr hb
        have hs := irqsL_succ (Ln.mixedP l) k
        have ha := HA.out k
        have hq1 : l.countP (Ln.atK k 0) ≤ n := by rw [H.out]; exact List.countP_le_length
        have hq2 : l.countP (Ln.atK k 1) ≤ n := by rw [H.out]; exact List.countP_le_length
        have hm8 : m ≤ 8 := by rw [hm]; exact Nat.le_trans (irqsL_len _ k) hk
        have HM := Lib.hid hm
        clear hm HA
        generalize l.countP (Ln.atK k 0) = q at c2 ha hq1
        generalize l.countP (Ln.atK k 1) = q2 at c3 ha hq2
        by_cases hq : 0 < q
        · by_cases hq' : 0 < q2
          · have HF2 := Lib.hid (show irqsL (Ln.mixedP l) (k + 1) = irqsL (Ln.mixedP l) k ++ [(k : Int)] from by rw [hs, ha]; simp [hq, hq'])
            clear ha hs
            go_wp2_with fail
            refine c2.mono ?_; rintro e w1 ⟨rfl, rfl⟩
            go_wp2_with fail
            refine c3.mono ?_; rintro e w1 ⟨rfl, rfl⟩
            go_wp2_with (at_builtin; (refine Nm.app_one rfl _ _ rfl w.heap.size u4 m _ rfl (hf.alloc _) (g := wr.heap.size) (c := 1) (k : Int) rfl ?hc0 (by omega) (by have := hb.size; simp <;> omega) ?_); (rotate_left); (intro v3 w3 hf3 hg3))
            go_roundw
            case rel =>
              refine ⟨k + 1, m + 1, by omega, by go_num, by rw [HF2.out, List.length_append, HM.out]; rfl, (hb.alloc hb.size _).grown hg3 (by have := hb.size; simp <;> omega) (fun j hj => (hf.lt j hj).1), ?_⟩
              rw [HF2.out, List.flatMap_append]
              exact hf3
            case measure => simp [intOf]; omega
            case hc0 =>
              intro j u hu
              simpa [Nm.cells] using hu
          · have HF2 := Lib.hid (show irqsL (Ln.mixedP l) (k + 1) = irqsL (Ln.mixedP l) k from by rw [hs, ha]; simp [hq, hq'])
            clear ha hs
            go_wp2_with fail
            refine c2.mono ?_; rintro e w1 ⟨rfl, rfl⟩
            go_wp2_with fail
            refine c3.mono ?_; rintro e w1 ⟨rfl, rfl⟩
            go_wp2_with fail
            go_roundw
            case rel => exact ⟨k + 1, m, by omega, by go_num, by rw [HF2.out, HM.out], hb, by rw [HF2.out]; exact hf⟩
            case measure => simp [intOf]; omega
        · have HF2 := Lib.hid (show irqsL (Ln.mixedP l) (k + 1) = irqsL (Ln.mixedP l) k from by rw [hs, ha]; simp [hq])
          clear ha hs
          go_wp2_with fail
          refine c2.mono ?_; rintro e w1 ⟨rfl, rfl⟩
          go_wp2_with fail
          go_roundw
          case rel => exact ⟨k + 1, m, by omega, by go_num, by rw [HF2.out, HM.out], hb, by rw [HF2.out]; exact hf⟩
          case measure => simp [intOf]; omega
      · have hk8 : k = 8 := by omega
        subst hk8
        go_wp2_with fail
        go_ret2
        refine ⟨_, rfl, ?_, hb⟩
        rw [HF.out]
        exact (Ow.of_own Nm.cells_len hf rfl hm).rd.mono (Nat.zero_le _) (Nat.le_refl _)

end Go.Proofs.Ytgnalbfepkcokaa
