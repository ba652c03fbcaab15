/- Counting lines and choosing interrupts, in the program. No condition. -/
import Derived.Test.YtgnalbfepkcokaaLnL
import Derived.Test.YtgnalbfepkcokaaTyInt
import Derived.Test.YtgnalbfepkcokaaBase2
namespace Go.Proofs.Ytgnalbfepkcokaa
open Go.RowKit Go.ChangeShapes Go.WideShapes Go.Deep

theorem Ln.good_len {l : List Ln} (h : Ln.good l = true) : l.length ≤ 6 := by
  simp only [Ln.good, Bool.and_eq_true, decide_eq_true_eq] at h; omega
theorem Ln.good_ok {l : List Ln} (h : Ln.good l = true) {i : Nat} {t : Ln} (ht : l[i]? = some t) : t.ok = true := by
  simp only [Ln.good, Bool.and_eq_true, List.all_eq_true] at h
  exact h.2 t (List.mem_of_getElem? ht)

theorem countLines_any (g : FuncId) (lb : Array Value) (p : Ln → Bool) (v : Value) (l : List Ln) (w : World) {lo hi : Nat} (h : Rd Ln.cells 4 w lo hi v l) (hh : hi ≤ w.heap.size)
    (eg : ∀ args w, (callFunc g args).run Try.prog w = .ok (.enter g args) w)
    (hp : ∀ (t : Ln) (W : World), Below w.heap.size w W → Calls Try.prog g (#[t.val] ++ lb) W fun e w' => e = .returned (.bool (p t)) ∧ Below W.heap.size W w') :
    Calls Try.prog 81 #[v, .func (.func g) #[] lb] w fun e w' => e = .returned (.int .i64 (l.countP p)) ∧ Below w.heap.size w w' := by
  obtain ⟨A, n, c, rfl, H, hc, hm⟩ := h.form
  unfold Ln.val at hp
  have HP := Lib.hid hp
  clear hp
  go_enter Try.func81, Try.ntmps81
  go_wp2_with fail
  go_loopw [5, 10] (fun q i wr => ∃ k : Nat, k ≤ n ∧ i = .int .i64 k ∧ q = .int .i64 ((l.take k).countP p) ∧ Below w.heap.size w wr) (fun _ i _ => n - (intOf i).toNat)
  case atStart => exact ⟨0, Nat.zero_le _, rfl, rfl, Below.refl _ _⟩
  case round =>
    obtain ⟨k, hk, rfl, rfl, hb⟩ := hrel
    have hq1 : (l.take k).countP p ≤ k := Nat.le_trans List.countP_le_length (by rw [List.length_take]; omega)
    by_cases hlt : k < n
    · obtain ⟨b, off, x, rfl, hx, _, hbl, f0, f1, f2, f3⟩ := Ln.get h hlt hb hh
      have hbw : b < wr.heap.size := by have := hb.size; omega
      have hs : (l.take (k + 1)).countP p = (l.take k).countP p + if p x = true then 1 else 0 := by
        rw [List.take_add_one, hx.out, List.countP_append]; simp
      generalize (l.take k).countP p = q at hs hq1 ⊢
      have c1 := HP.out x (wr.alloc (.cells #[.int .i64 x.kind, .int .i64 x.irq, .bool x.high, .bool x.raised] 25)) (hb.alloc hb.size _)
      cases hq : p x
      · rw [hq] at c1 hs
        have HF := Lib.hid hs
        clear hq hs
        go_wp2_with fail
        refine c1.mono ?_; rintro e w1 ⟨rfl, hb1⟩
        go_wp2_with fail
        go_roundw
        case rel => exact ⟨k + 1, by omega, by go_num, by rw [HF.out]; simp, (hb.alloc hb.size _).trans (hb1.mono (by have := hb.size; simp; omega))⟩
        case measure => simp [intOf]; omega
      · rw [hq] at c1 hs
        have HF := Lib.hid hs
        clear hq hs
        go_wp2_with fail
        refine c1.mono ?_; rintro e w1 ⟨rfl, hb1⟩
        go_wp2_with fail
        go_roundw
        case rel => exact ⟨k + 1, by omega, by go_num, by rw [HF.out]; simp, (hb.alloc hb.size _).trans (hb1.mono (by have := hb.size; simp; omega))⟩
        case measure => simp [intOf]; omega
    · go_wp2_with fail
      go_ret
      exact ⟨ret_int (by rw [List.take_of_length_le (by rw [← H.out]; omega)]), hb⟩

/-- the numbers below k that are chosen -/
def irqsL (p : Nat → Bool) (k : Nat) : List Int := ((List.range k).filter p).map fun (i : Nat) => (i : Int)
theorem irqsL_succ (p : Nat → Bool) (k : Nat) : irqsL p (k + 1) = irqsL p k ++ if p k = true then [(k : Int)] else [] := by
  unfold irqsL
  rw [List.range_succ, List.filter_append, List.map_append]
  congr 1
  by_cases h : p k = true <;> simp [h]
theorem irqsL_len (p : Nat → Bool) (k : Nat) : (irqsL p k).length ≤ k := by
  unfold irqsL
  rw [List.length_map]
  exact Nat.le_trans (List.length_filter_le _ _) (by simp)

set_option maxHeartbeats 1000000 in
theorem irqsWhere_any (g : FuncId) (lb : Array Value) (p : Nat → Bool) (w : World)
    (eg : ∀ args w, (callFunc g args).run Try.prog w = .ok (.enter g args) w)
    (hp : ∀ (i : Nat) (W : World), i < 8 → Below w.heap.size w W → Calls Try.prog g (#[.int .i64 i] ++ lb) W fun e w' => e = .returned (.bool (p i)) ∧ Below W.heap.size W w') :
    Calls Try.prog 84 #[.func (.func g) #[] lb] w fun e w' => ∃ v', e = .returned v' ∧ Ow Nm.cells 1 3 w' w.heap.size w'.heap.size v' (irqsL p 8) ∧ Below w.heap.size w w' := by
  have HP := Lib.hid hp
  clear hp
  go_enter Try.func84, Try.ntmps84
  go_wp2_with fail
  have hf0 := own_empty w (base := w.heap.size) 3 1 (Nat.le_refl _)
  have hb0 := (Below.refl w.heap.size w).alloc (Nat.le_refl _) (.cells #[] 3)
  generalize w.alloc _ = w0 at hf0 hb0 ⊢
  go_loopw [3, 6] (fun v i wr => ∃ (k m : Nat), k ≤ 8 ∧ i = .int .i64 k ∧ m = (irqsL p k).length ∧ Below w.heap.size w wr ∧ wr.ownsRow w.heap.size 3 1 v m ((irqsL p k).flatMap Nm.cells)) (fun _ i _ => 8 - (intOf i).toNat)
  case atStart => exact ⟨0, 0, Nat.zero_le _, rfl, rfl, hb0, hf0⟩
  case round =>
    clear hf0 hb0
    obtain ⟨k, m, hk, rfl, hm, hb, hf⟩ := hrel
    by_cases hlt : k < 8
    · have c1 := HP.out k wr hlt hb
      have hs := irqsL_succ p k
      have hm8 : m ≤ 8 := by rw [hm]; exact Nat.le_trans (irqsL_len p k) hk
      have HM := Lib.hid hm
      clear hm
      cases hq : p k
      · rw [hq] at c1 hs
        have HF := Lib.hid (show irqsL p (k + 1) = irqsL p k from by rw [hs]; simp)
        clear hq hs
        go_wp2_with fail
        refine c1.mono ?_; rintro e w1 ⟨rfl, hb1⟩
        go_wp2_with fail
        go_roundw
        case rel => exact ⟨k + 1, m, by omega, by go_num, by rw [HF.out, HM.out], hb.trans (hb1.mono hb.size), by rw [HF.out]; exact hf.kept (World.grownBy.mk hb1.os hb1.tape hb1.output hb1.size (fun k hk _ => hb1.block k hk) : wr.grownBy w1 none) (by cases hv : u3.ownBlock <;> simp)⟩
        case measure => simp [intOf]; omega
      · rw [hq] at c1 hs
        have HF := Lib.hid (show irqsL p (k + 1) = irqsL p k ++ [(k : Int)] from by rw [hs]; simp)
        clear hq hs
        go_wp2_with fail
        refine c1.mono ?_; rintro e w1 ⟨rfl, hb1⟩
        replace hf := hf.kept (World.grownBy.mk hb1.os hb1.tape hb1.output hb1.size (fun k hk _ => hb1.block k hk) : wr.grownBy w1 none) (by cases hv : u3.ownBlock <;> simp)
        replace hb := hb.trans (hb1.mono hb.size)
        clear hb1 c1
        go_wp2_with (at_builtin; (refine Nm.app_one rfl _ _ rfl w.heap.size u3 m _ rfl (hf.alloc _) (g := w1.heap.size) (c := 1) (k : Int) rfl ?hc0 (by omega) (by have := hb.size; simp <;> omega) ?_); (rotate_left); (intro v3 w3 hf3 hg3))
        go_roundw
        case rel =>
          refine ⟨k + 1, m + 1, by omega, by go_num, by rw [HF.out, List.length_append, HM.out]; rfl, (hb.alloc hb.size _).grown hg3 (by have := hb.size; simp <;> omega) (fun j hj => (hf.lt j hj).1), ?_⟩
          rw [HF.out, List.flatMap_append]
          exact hf3
        case measure => simp [intOf]; omega
        case hc0 =>
          intro j u hu
          simpa [Nm.cells] using hu
    · have hk8 : k = 8 := by omega
      subst hk8
      go_wp2_with fail
      go_ret
      exact ⟨_, rfl, Ow.of_own Nm.cells_len hf rfl hm, hb⟩

end Go.Proofs.Ytgnalbfepkcokaa
