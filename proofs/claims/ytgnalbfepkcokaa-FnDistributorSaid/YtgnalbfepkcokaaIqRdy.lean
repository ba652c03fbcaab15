/- The interrupts that are ready for a processor, the most urgent one first, in the program. Condition: at most 8 interrupts. -/
import Derived.Test.YtgnalbfepkcokaaIqWith
import Derived.Test.YtgnalbfepkcokaaStable
import Derived.Test.YtgnalbfepkcokaaCmp
namespace Go.Proofs.Ytgnalbfepkcokaa
open Go.RowKit Go.ChangeShapes Go.WideShapes Go.Deep

/-- the numbers below k that are chosen -/
def irqsL (p : Nat → Bool) (k : Nat) : List Int := ((List.range k).filter p).map fun (i : Nat) => (i : Int)
theorem irqsL_succ (p : Nat → Bool) (k : Nat) : irqsL p (k + 1) = irqsL p k ++ if p k = true then [(k : Int)] else [] := by
  unfold irqsL
  rw [List.range_succ, List.filter_append, List.map_append]
  congr 1
  by_cases h : p k = true <;> simp [h]
theorem irqsL_len (p : Nat → Bool) (k : Nat) : (irqsL p k).length ≤ k := by
  unfold irqsL
  rw [List.length_map]
  exact Nat.le_trans (List.length_filter_le _ _) (by simp)
theorem irqsL_mem (p : Nat → Bool) (k : Nat) (x : Int) : x ∈ irqsL p k ↔ ∃ i : Nat, i < k ∧ p i = true ∧ (i : Int) = x := by
  simp [irqsL, and_assoc]

def Iq.nth (l : List Iq) (i : Nat) : Iq := l.getD i default
theorem Iq.nth_at {l : List Iq} {i : Nat} {t : Iq} (h : l[i]? = some t) : Iq.nth l i = t := by simp [Iq.nth, h]
def Iq.rdyP (l : List Iq) (cpu : Int) (i : Nat) : Bool := (Iq.nth l i).rdy && (Iq.nth l i).target == cpu
def Iq.prL (l : List Iq) (i : Int) : Int := (Iq.nth l i.toNat).prio
theorem Iq.prL_at {l : List Iq} {i : Nat} {t : Iq} (h : l[i]? = some t) : Iq.prL l i = t.prio := by simp [Iq.prL, Iq.nth_at h]
def Iq.ltp (l : List Iq) (i j : Int) : Bool := decide (Iq.prL l i < Iq.prL l j)
/-- the ready ones, the most urgent one first -/
def Iq.all (l : List Iq) (cpu : Int) : List Int := sortK (Iq.ltp l) (irqsL (Iq.rdyP l cpu) l.length)
theorem Iq.all_mem (l : List Iq) (cpu x : Int) : x ∈ Iq.all l cpu ↔ ∃ i : Nat, i < l.length ∧ Iq.rdyP l cpu i = true ∧ (i : Int) = x := by
  rw [Iq.all, sortK_mem, irqsL_mem]
theorem Iq.all_len (l : List Iq) (cpu : Int) : (Iq.all l cpu).length ≤ l.length := by
  rw [Iq.all, sortK_len]; exact irqsL_len _ _

theorem rdyCmp_any (v : Value) (l : List Iq) (w : World) {B lo hi : Nat} (hB : w.cell? ⟨B, 0, none⟩ = some v) (hBz : B < w.heap.size) (h : Rd Iq.cells 5 w lo hi v l) (hh : hi ≤ w.heap.size) (i j : Nat) (hi2 : i < l.length) (hj2 : j < l.length) (W : World) (hb : Below w.heap.size w W) :
    Calls Try.prog 126 (#[.int .i64 i, .int .i64 j] ++ #[.pointer (some ⟨B, 0, none⟩)]) W fun e w' => e = .returned (.int .i64 (cmpI (Iq.prL l i) (Iq.prL l j))) ∧ ∃ m, w' = W.drewN m := by
  obtain ⟨A, n, c, rfl, H, hc, hm⟩ := h.form
  rw [← H.out] at hi2 hj2
  rw [← hb.cell (p := ⟨B, 0, none⟩) hBz] at hB
  obtain ⟨b, off, t, rfl, ht, _, hbl, f0, f1, f2, f3, f4⟩ := Iq.get h hi2 hb hh
  obtain ⟨_, _, u, e, hu, _, _, g0, g1, g2, g3, g4⟩ := Iq.get h hj2 hb hh
  injection e with e
  injection e with e1 e2
  subst e1; subst e2
  have HE := Lib.hid (show cmpI (Iq.prL l i) (Iq.prL l j) = cmpI t.prio u.prio from by rw [Iq.prL_at ht.out, Iq.prL_at hu.out])
  have c1 := fun W => compare_any t.prio u.prio W
  generalize cmpI t.prio u.prio = z at c1 HE
  clear hb h f0 f1 f2 f4 g0 g1 g2 g4
  go_enter Try.func126, Try.ntmps126
  go_wp2_with fail
  go_quiet ((go_at_call 127; refine Calls.quiet_of_same (c1 _)))
  go_wp2_with fail
  go_ret
  exact ⟨ret_int HE.out.symm, _, rfl⟩

set_option maxHeartbeats 1000000 in
theorem implReady_any (v : Value) (l : List Iq) (cpu : Int) (w : World) {lo hi : Nat} (h : Rd Iq.cells 5 w lo hi v l) (hh : hi ≤ w.heap.size) (h8 : l.length ≤ 8) :
    Calls Try.prog 115 #[v, .int .i64 cpu] w fun e w' => ∃ v', e = .returned v' ∧ Ow Nm.cells 1 3 w' w.heap.size w'.heap.size v' (Iq.all l cpu) ∧ Below w.heap.size w w' := by
  have hv := h.form
  have b0 := (Below.refl w.heap.size w).alloc (Nat.le_refl _) (.cells #[v] 54)
  have k0 : (w.alloc (.cells #[v] 54)).cell? ⟨w.heap.size, 0, none⟩ = some v := by simp
  have z0 : (w.alloc (.cells #[v] 54)).heap.size = w.heap.size + 1 := by simp
  have hrd := h.below b0 hh
  have hh0 : hi ≤ (w.alloc (.cells #[v] 54)).heap.size := by omega
  have HC := Lib.hid (fun (i j : Nat) (hi2 : i < l.length) (hj2 : j < l.length) (W : World) hb => rdyCmp_any v l _ k0 (by omega) hrd hh0 i j hi2 hj2 W hb)
  obtain ⟨A, n, c, rfl, H, hc, hm⟩ := hv
  rw [← H.out] at h8
  clear h
  go_enter Try.func115, Try.ntmps115
  go_wp2_with fail
  generalize hw0 : w.alloc _ = w0 at *
  clear hw0
  have hf0 := own_empty_at w0 (base := w0.heap.size) (g := w.heap.size + 1) 3 1 z0.symm (Nat.le_refl _)
  have hb0 := (Below.refl w0.heap.size w0).alloc (Nat.le_refl _) (.cells #[] 3)
  generalize w0.alloc _ = w1 at hf0 hb0 ⊢
  go_loopw [5, 11] (fun q i wr => ∃ (k m : Nat), k ≤ n ∧ i = .int .i64 k ∧ m = (irqsL (Iq.rdyP l cpu) k).length ∧ Below w0.heap.size w0 wr ∧ wr.ownsRow w0.heap.size 3 1 q m ((irqsL (Iq.rdyP l cpu) k).flatMap Nm.cells)) (fun _ i _ => n - (intOf i).toNat)
  case atStart => exact ⟨0, 0, Nat.zero_le _, rfl, rfl, hb0, hf0⟩
  case round =>
    clear hf0 hb0
    obtain ⟨k, m, hk, rfl, hm, hb, hf⟩ := hrel
    have hbs := hb.size
    have hs := irqsL_succ (Iq.rdyP l cpu) k
    have hmk : m ≤ k := by rw [hm]; exact irqsL_len _ k
    have HM := Lib.hid hm
    clear hm
    by_cases hlt : k < n
    · obtain ⟨b, off, t, rfl, ht, _, hbl, f0, f1, f2, f3, f4⟩ := Iq.get hrd hlt hb hh0
      have hP : Iq.rdyP l cpu k = (t.rdy && t.target == cpu) := by rw [Iq.rdyP, Iq.nth_at ht.out]
      rw [hP] at hs
      have c1 := fun W => isReady_any t W
      unfold Iq.val at c1
      have HR := Lib.hid (show t.rdy = t.rdy from rfl)
      cases hq : t.rdy
      · rw [hq] at c1 hs
        have HF := Lib.hid (show irqsL (Iq.rdyP l cpu) (k + 1) = irqsL (Iq.rdyP l cpu) k from by rw [hs]; simp)
        clear hq hs hP
        go_wp2_with fail
        refine (c1 _).mono ?_; rintro e w2 ⟨rfl, b2⟩
        have hf2 := (hf.alloc (.cells #[.bool t.enabled, .bool t.pending, .bool t.active, .int .i64 t.prio, .int .i64 t.target] 62)).kept (World.grownBy.mk b2.os b2.tape b2.output b2.size (fun k hk _ => b2.block k hk) : (wr.alloc (.cells #[.bool t.enabled, .bool t.pending, .bool t.active, .int .i64 t.prio, .int .i64 t.target] 62)).grownBy w2 none) (by cases hv : u5.ownBlock <;> simp)
        have hb2 := (hb.alloc hb.size (.cells #[.bool t.enabled, .bool t.pending, .bool t.active, .int .i64 t.prio, .int .i64 t.target] 62)).trans (b2.mono (by simp; omega))
        go_wp2_with fail
        go_roundw
        case rel => exact ⟨k + 1, m, by omega, by go_num, by rw [HF.out, HM.out], hb2, by rw [HF.out]; exact hf2⟩
        case measure => simp [intOf]; omega
      · by_cases hq2 : t.target = cpu
        · rw [hq] at c1 hs
          have HF := Lib.hid (show irqsL (Iq.rdyP l cpu) (k + 1) = irqsL (Iq.rdyP l cpu) k ++ [(k : Int)] from by rw [hs]; simp [hq2])
          simp only [hq2] at c1
          rw [hq2] at f4
          clear hq hs hP hq2
          go_wp2_with fail
          refine (c1 _).mono ?_; rintro e w2 ⟨rfl, b2⟩
          have g4 : w2.cell? ⟨wr.heap.size, 4, none⟩ = some (.int .i64 cpu) := (b2.cell (p := ⟨wr.heap.size, 4, none⟩) (by simp)).trans (by simp)
          have hf2 := (hf.alloc (.cells #[.bool t.enabled, .bool t.pending, .bool t.active, .int .i64 t.prio, .int .i64 cpu] 62)).kept (World.grownBy.mk b2.os b2.tape b2.output b2.size (fun k hk _ => b2.block k hk) : (wr.alloc (.cells #[.bool t.enabled, .bool t.pending, .bool t.active, .int .i64 t.prio, .int .i64 cpu] 62)).grownBy w2 none) (by cases hv : u5.ownBlock <;> simp)
          have hb2 := (hb.alloc hb.size (.cells #[.bool t.enabled, .bool t.pending, .bool t.active, .int .i64 t.prio, .int .i64 cpu] 62)).trans (b2.mono (by simp; omega))
          have hz2 := hb2.size
          clear b2 c1
          go_wp2_with (at_builtin; (refine Nm.app_one rfl _ _ rfl w0.heap.size u5 m _ rfl (hf2.alloc _) (g := w2.heap.size) (c := 1) (k : Int) rfl ?hc0 (by omega) (by simp <;> omega) ?_); (rotate_left); (intro v3 w3 hf3 hg3))
          go_roundw
          case rel =>
            refine ⟨k + 1, m + 1, by omega, by go_num, by rw [HF.out, List.length_append, HM.out]; rfl, (hb2.alloc hb2.size _).grown hg3 (by simp <;> omega) (fun j hj => (hf2.lt j hj).1), ?_⟩
            rw [HF.out, List.flatMap_append]
            exact hf3
          case measure => simp [intOf]; omega
          case hc0 =>
            intro j u hu
            simpa [Nm.cells] using hu
        · rw [hq] at c1 hs
          have HF := Lib.hid (show irqsL (Iq.rdyP l cpu) (k + 1) = irqsL (Iq.rdyP l cpu) k from by rw [hs]; simp [hq2])
          clear hq hs hP
          go_wp2_with fail
          refine (c1 _).mono ?_; rintro e w2 ⟨rfl, b2⟩
          have g4 : w2.cell? ⟨wr.heap.size, 4, none⟩ = some (.int .i64 t.target) := (b2.cell (p := ⟨wr.heap.size, 4, none⟩) (by simp)).trans (by simp)
          have hf2 := (hf.alloc (.cells #[.bool t.enabled, .bool t.pending, .bool t.active, .int .i64 t.prio, .int .i64 t.target] 62)).kept (World.grownBy.mk b2.os b2.tape b2.output b2.size (fun k hk _ => b2.block k hk) : (wr.alloc (.cells #[.bool t.enabled, .bool t.pending, .bool t.active, .int .i64 t.prio, .int .i64 t.target] 62)).grownBy w2 none) (by cases hv : u5.ownBlock <;> simp)
          have hb2 := (hb.alloc hb.size (.cells #[.bool t.enabled, .bool t.pending, .bool t.active, .int .i64 t.prio, .int .i64 t.target] 62)).trans (b2.mono (by simp; omega))
          go_wp2_with fail
          go_roundw
          case rel => exact ⟨k + 1, m, by omega, by go_num, by rw [HF.out, HM.out], hb2, by rw [HF.out]; exact hf2⟩
          case measure => simp [intOf]; omega
    · have hkn : k = l.length := by rw [← H.out]; omega
      have HK := Lib.hid hkn
      clear hkn hs
      have ow := Ow.of_own Nm.cells_len hf rfl HM.out
      have c2 := sortStable_any 126 #[.pointer (some ⟨w.heap.size, 0, none⟩)] (Iq.ltp l) (fun x y => cmpI (Iq.prL l x) (Iq.prL l y)) (fun x y => by simp only [Iq.ltp, decide_eq_true_eq]; exact cmpI_neg _ _) w0 u5 _ (by rw [← HM.out]; omega) wr hb ow (Nat.le_refl _)
        (enters Try.func126 (by kernel_rfl) rfl) (fun x y W hx hy hW => by
          obtain ⟨i, hi2, _, rfl⟩ := (irqsL_mem _ _ _).1 hx
          obtain ⟨j, hj2, _, rfl⟩ := (irqsL_mem _ _ _).1 hy
          exact HC.out i j (by rw [← HK.out]; exact hi2) (by rw [← HK.out]; exact hj2) W hW)
      go_wp2_with fail
      refine c2.mono ?_; rintro e w2 ⟨rfl, o2, hh2, b2⟩
      go_wp2_with fail
      go_ret
      exact ⟨u5, rfl, by rw [Iq.all, ← HK.out]; exact o2.mono (by omega) hh2, b0.trans (b2.mono (by omega))⟩

end Go.Proofs.Ytgnalbfepkcokaa
