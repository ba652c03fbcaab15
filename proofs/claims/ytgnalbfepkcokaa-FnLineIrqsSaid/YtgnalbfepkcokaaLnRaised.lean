/- The raised interrupts of lines, in the reference. No condition. -/
import Derived.Test.YtgnalbfepkcokaaAsc
import Derived.Test.YtgnalbfepkcokaaLnSpec
namespace Go.Proofs.Ytgnalbfepkcokaa
open Go.RowKit Go.ChangeShapes Go.WideShapes Go.Deep

def Ln.racc (l : List Ln) : List Int := accL Ln.raised Ln.irq l
theorem irqsL_asc (p : Nat → Bool) : ∀ k, (irqsL p k).Pairwise (· < ·) := by
  intro k
  unfold irqsL
  rw [List.pairwise_map]
  refine List.Pairwise.imp (fun h => by omega) (List.Pairwise.filter _ List.pairwise_lt_range)
theorem irqsL_mem (p : Nat → Bool) (k : Nat) (x : Int) : x ∈ irqsL p k ↔ ∃ i : Nat, i < k ∧ p i = true ∧ (i : Int) = x := by
  simp [irqsL, and_assoc]
theorem Ln.ok_irq {t : Ln} (h : t.ok = true) : 0 ≤ t.irq ∧ t.irq ≤ 7 := by
  simp only [Ln.ok, Bool.and_eq_true] at h
  exact inB_true h.1
theorem Ln.racc_eq {l : List Ln} (h : Ln.good l = true) : Ln.racc l = irqsL (Ln.raisedP l) 8 := by
  refine asc_ext _ _ (accL_asc _ _ _) (irqsL_asc _ _) (fun x => ?_)
  have hall := List.all_eq_true.1 (Ln.good_all h)
  rw [Ln.racc, accL_mem, irqsL_mem]
  constructor
  · rintro ⟨t, ht, h1, rfl⟩
    have := Ln.ok_irq (hall t ht)
    refine ⟨t.irq.toNat, by omega, ?_, by omega⟩
    simp only [Ln.raisedP, decide_eq_true_eq, List.countP_pos_iff]
    exact ⟨t, ht, by simp [Ln.atR, h1]; omega⟩
  · rintro ⟨i, hi, h1, rfl⟩
    simp only [Ln.raisedP, decide_eq_true_eq, List.countP_pos_iff] at h1
    obtain ⟨t, ht, h2⟩ := h1
    simp only [Ln.atR, Bool.and_eq_true, beq_iff_eq] at h2
    exact ⟨t, ht, by simp [h2], by simp [h2]⟩

set_option maxHeartbeats 1000000 in
theorem specRaisedIrqs_any (v : Value) (l : List Ln) (w : World) {lo hi : Nat} (h : Rd Ln.cells 4 w lo hi v l) (hh : hi ≤ w.heap.size) :
    Calls Try.prog 26 #[v] w fun r w' => ∃ v', r = .returned (.tuple #[v', .bool (Ln.good l)]) ∧ Rd Nm.cells 1 w' 0 w'.heap.size v' (Ln.irqsR Ln.raisedP l) ∧ Below w.heap.size w w' := by
  have hb0 := (Below.refl w.heap.size w).alloc (Nat.le_refl _) (.cells #[] 3)
  have c1 := l7Good_any v l (w.alloc (.cells #[] 3)) (h.below hb0 hh) (by simp; omega)
  have hrd := h
  obtain ⟨A, n, c, rfl, H, hc, hm⟩ := h.form
  have hf0 := own_empty w (base := w.heap.size) 3 1 (Nat.le_refl _)
  cases hg : Ln.good l
  · have HF := Lib.hid (show Ln.irqsR Ln.raisedP l = [] from by simp [Ln.irqsR, hg])
    rw [hg] at c1
    clear hg
    go_enter Try.func26, Try.ntmps26
    go_wp2_with fail
    refine c1.mono ?_; rintro q w1 ⟨rfl, b1⟩
    go_wp2_with fail
    go_ret2
    exact ⟨_, rfl, by rw [HF.out]; exact Rd.empty (by decide), hb0.trans (b1.mono (by simp))⟩
  · have HF := Lib.hid (show Ln.irqsR Ln.raisedP l = Ln.racc l from by rw [Ln.racc_eq hg]; simp [Ln.irqsR, hg])
    have hn6 := Ln.good_len hg
    rw [← H.out] at hn6
    rw [hg] at c1
    clear hg
    go_enter Try.func26, Try.ntmps26
    go_wp2_with fail
    refine c1.mono ?_; rintro q w1 ⟨rfl, b1⟩
    go_wp2_with fail
    replace hb0 := hb0.trans (b1.mono (by simp))
    have hf1 : Rd Nm.cells 1 w1 0 w1.heap.size (.slice (some ⟨w.heap.size, 0, none⟩) 0 0) [] := Rd.empty (by decide)
    clear b1 c1 hf0
    go_loopw [4, 5] (fun v i wr => ∃ k : Nat, k ≤ n ∧ i = .int .i64 k ∧ Below w.heap.size w wr ∧ Rd Nm.cells 1 wr 0 wr.heap.size v (Ln.racc (l.take k))) (fun _ i _ => n - (intOf i).toNat)
    case atStart => exact ⟨0, Nat.zero_le _, rfl, hb0, hf1⟩
    case round =>
      clear hf1 hb0
      obtain ⟨k, hk, rfl, hb, hf⟩ := hrel
      have hl6 : (Ln.racc (l.take k)).length ≤ 1048576 := by
        have := accL_len Ln.raised Ln.irq (l.take k)
        rw [List.length_take] at this
        unfold Ln.racc; omega
      by_cases hlt : k < n
      · obtain ⟨b, off, x, rfl, hx, _, hbl, f0, f1, f2, f3⟩ := Ln.get hrd hlt hb hh
        have HP := Lib.hid (accL_pre Ln.raised Ln.irq hx.out)
        have c1 := l1Has_any u4 _ x.irq wr hf (Nat.le_refl _)
        have c2 := fun hx => l1Put_any u4 _ x.irq wr hf (Nat.le_refl _) hx hl6
        change Hid (Ln.racc (l.take (k + 1)) = if x.raised && !(Ln.racc (l.take k)).contains x.irq then putL x.irq (Ln.racc (l.take k)) else Ln.racc (l.take k)) at HP
        cases hr : x.raised
        · have HQ := Lib.hid (show Ln.racc (l.take (k + 1)) = Ln.racc (l.take k) from by rw [HP.out, hr]; simp)
          rw [hr] at f3
          clear hr c1 c2
          go_wp2_with fail
          go_roundw
          case rel => exact ⟨k + 1, by omega, by go_num, hb, by rw [HQ.out]; exact hf⟩
          case measure => simp [intOf]; omega
        · cases hq : (Ln.racc (l.take k)).contains x.irq
          · have HQ := Lib.hid (show Ln.racc (l.take (k + 1)) = putL x.irq (Ln.racc (l.take k)) from by rw [HP.out, hr, hq]; simp)
            have c2 := c2 (by simpa using hq)
            rw [hr] at f3
            rw [hq] at c1
            clear hr hq
            go_wp2_with fail
            refine c1.mono ?_; rintro e w1 ⟨rfl, rfl⟩
            go_wp2_with fail
            refine c2.mono ?_; rintro e w1 ⟨v', rfl, o1, b1⟩
            go_wp2_with fail
            go_roundw
            case rel => exact ⟨k + 1, by omega, by go_num, hb.trans (b1.mono hb.size), by rw [HQ.out]; exact o1.rd.mono (Nat.zero_le _) (Nat.le_refl _)⟩
            case measure => simp [intOf]; omega
          · have HQ := Lib.hid (show Ln.racc (l.take (k + 1)) = Ln.racc (l.take k) from by rw [HP.out, hr, hq]; simp)
            rw [hr] at f3
            rw [hq] at c1
            clear hr hq c2
            go_wp2_with fail
            refine c1.mono ?_; rintro e w1 ⟨rfl, rfl⟩
            go_wp2_with fail
            go_roundw
            case rel => exact ⟨k + 1, by omega, by go_num, hb, by rw [HQ.out]; exact hf⟩
            case measure => simp [intOf]; omega
      · go_wp2_with fail
        go_ret2
        exact ⟨_, rfl, by rw [List.take_of_length_le (by rw [← H.out]; omega)] at hf; rw [HF.out]; exact hf, hb⟩

end Go.Proofs.Ytgnalbfepkcokaa
