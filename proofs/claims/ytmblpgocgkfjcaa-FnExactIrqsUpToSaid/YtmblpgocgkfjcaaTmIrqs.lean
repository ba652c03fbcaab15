/- How often each interrupt is raised by timers up to a tick, in the program and in the reference. No condition. -/
import Derived.Test.YtmblpgocgkfjcaaTmArm
import Derived.Test.YtmblpgocgkfjcaaTmLaw1
import Derived.Test.YtmblpgocgkfjcaaRegion
namespace Go.Proofs.Ytmblpgocgkfjcaa
open Go.RowKit Go.ChangeShapes Go.WideShapes Go.Deep

def Tm.irqAdd (tick : Int) (acc : List Int) (t : Tm) : List Int := acc.set t.irq.toNat (acc.getD t.irq.toNat 0 + t.fires tick)
def Tm.irqAcc (tick : Int) (l : List Tm) : List Int := l.foldl (Tm.irqAdd tick) (List.replicate 8 0)
def Tm.irqsOk (l : List Tm) (tick : Int) : Bool := Tm.good l && inB tick 0 100000
def Tm.irqsR (l : List Tm) (tick : Int) : List Int := if Tm.irqsOk l tick then Tm.irqAcc tick l else []

theorem Tm.irqAcc_len (tick : Int) (l : List Tm) : (Tm.irqAcc tick l).length = 8 := by
  have h : ∀ (l : List Tm) (acc : List Int), (l.foldl (Tm.irqAdd tick) acc).length = acc.length := by
    intro l
    induction l with
    | nil => intro acc; rfl
    | cons t l ih => intro acc; rw [List.foldl_cons, ih]; simp [Tm.irqAdd]
  simp [Tm.irqAcc, h]
theorem Tm.irqsR_len (l : List Tm) (tick : Int) : (Tm.irqsR l tick).length ≤ 1048576 := by
  unfold Tm.irqsR; split
  · rw [Tm.irqAcc_len]; omega
  · simp
theorem Tm.irqAcc_succ (tick : Int) {l : List Tm} {k : Nat} {t : Tm} (ht : l[k]? = some t) : Tm.irqAcc tick (l.take (k + 1)) = Tm.irqAdd tick (Tm.irqAcc tick (l.take k)) t := by
  simp [Tm.irqAcc, List.take_add_one, ht]
/-- every count is small -/
theorem Tm.irqAcc_bd {tick : Int} (h2 : tick ≤ 100000) : ∀ (l : List Tm), l.all Tm.ok = true → ∀ x ∈ Tm.irqAcc tick l, 0 ≤ x ∧ x ≤ 100001 * l.length := by
  have h : ∀ (l : List Tm) (acc : List Int) (m : Int), l.all Tm.ok = true → 0 ≤ m → (∀ x ∈ acc, 0 ≤ x ∧ x ≤ m) → ∀ x ∈ l.foldl (Tm.irqAdd tick) acc, 0 ≤ x ∧ x ≤ m + 100001 * l.length := by
    intro l
    induction l with
    | nil => intro acc m _ _ ha x hx; have := ha x hx; simp; omega
    | cons t l ih =>
      intro acc m hl hm ha x hx
      simp only [List.all_cons, Bool.and_eq_true] at hl
      have hf := Tm.fires_bd t tick hl.1 h2
      rw [List.foldl_cons] at hx
      have := ih (Tm.irqAdd tick acc t) (m + 100001) hl.2 (by omega) (by
        intro y hy
        rcases List.mem_or_eq_of_mem_set hy with hy | rfl
        · have := ha y hy; omega
        · have hd : 0 ≤ acc.getD t.irq.toNat 0 ∧ acc.getD t.irq.toNat 0 ≤ m := by
            rw [List.getD_eq_getElem?_getD]
            cases hq : acc[t.irq.toNat]? with
            | none => simp; omega
            | some z => exact ha z (List.mem_of_getElem? hq)
          omega) x hx
      simp only [List.length_cons]
      omega
  intro l hl x hx
  have := h l (List.replicate 8 0) 0 hl (Int.le_refl _) (by intro y hy; have := List.eq_of_mem_replicate hy; omega) x hx
  omega

theorem make8 : ∀ w : World, (Instr.makeSlice 46 (.int .i64 8) (.int .i64 8)).run Try.prog w = .ok (.slice (some ⟨w.heap.size, 0, none⟩) 8 8) (w.alloc (.cells #[.int .i64 0, .int .i64 0, .int .i64 0, .int .i64 0, .int .i64 0, .int .i64 0, .int .i64 0, .int .i64 0] 3)) := fun _ => by kernel_rfl
theorem ow_make8 (w : World) {lo : Nat} (hlo : lo ≤ w.heap.size) : Ow Nm.cells 1 3 (w.alloc (.cells #[.int .i64 0, .int .i64 0, .int .i64 0, .int .i64 0, .int .i64 0, .int .i64 0, .int .i64 0, .int .i64 0] 3)) lo (w.heap.size + 1) (.slice (some ⟨w.heap.size, 0, none⟩) 8 8) (List.replicate 8 0) := by
  have h := World.ownsRow_lit (e := 3) (size := 1) w #[.int .i64 0, .int .i64 0, .int .i64 0, .int .i64 0, .int .i64 0, .int .i64 0, .int .i64 0, .int .i64 0] 8 hlo (by decide) rfl
  have := Ow.of_own (cells := Nm.cells) (l := List.replicate 8 0) Nm.cells_len h rfl rfl
  simpa using this

theorem implIrqsUpTo_any (v : Value) (l : List Tm) (x : Int) (w : World) {lo hi : Nat} (h : Rd Tm.cells 4 w lo hi v l) (hh : hi ≤ w.heap.size) :
    Calls Try.prog 33 #[v, .int .i64 x] w fun r w' => ∃ v', r = .returned (.tuple #[v', .bool (Tm.irqsOk l x)]) ∧ Ow Nm.cells 1 3 w' w.heap.size w'.heap.size v' (Tm.irqsR l x) ∧ (Tm.irqsR l x).length ≤ 1048576 ∧ Below w.heap.size w w' := by
  have hlen := Tm.irqsR_len l x
  have c1 := implAreTimers_any v l w h hh
  have c2 := fun W => isTick_any x W
  have hrd := h
  obtain ⟨A, n, c, rfl, H, hc, hm⟩ := h.form
  cases hg : Tm.good l
  · have HF := Lib.hid (show Tm.irqsOk l x = false ∧ Tm.irqsR l x = [] from by simp [Tm.irqsR, Tm.irqsOk, hg])
    rw [hg] at c1
    clear hg
    go_enter Try.func33, Try.ntmps33
    go_wp2_with fail
    refine c1.mono ?_; rintro q w1 ⟨rfl, b1⟩
    go_wp2_with fail
    go_ret2
    exact ⟨_, by rw [HF.out.1]; rfl, by rw [HF.out.2]; exact Ow.nil_, hlen, b1⟩
  · cases hi : inB x 0 100000
    · have HF := Lib.hid (show Tm.irqsOk l x = false ∧ Tm.irqsR l x = [] from by simp [Tm.irqsR, Tm.irqsOk, hi])
      rw [hg] at c1
      rw [hi] at c2
      clear hg hi
      go_enter Try.func33, Try.ntmps33
      go_wp2_with fail
      refine c1.mono ?_; rintro q w1 ⟨rfl, b1⟩
      go_wp2_with fail
      refine (c2 _).mono ?_; rintro q w' ⟨rfl, rfl⟩
      go_wp2_with fail
      go_ret2
      exact ⟨_, by rw [HF.out.1]; rfl, by rw [HF.out.2]; exact Ow.nil_, hlen, b1⟩
    · have hx := inB_true hi
      have hn8 := Tm.good_len hg
      rw [← H.out] at hn8
      have HG := Lib.hid hg
      have HF := Lib.hid (show Tm.irqsOk l x = true ∧ Tm.irqsR l x = Tm.irqAcc x l from by simp [Tm.irqsR, Tm.irqsOk, hg, hi])
      rw [hg] at c1
      rw [hi] at c2
      obtain ⟨hx1, hx2⟩ := hx
      have c3 := fun t W hk => firesUpTo_any t x W hk (by omega) hx2
      have hmk := make8
      clear hg hi
      go_enter Try.func33, Try.ntmps33
      go_wp2_with fail
      refine c1.mono ?_; rintro q w1 ⟨rfl, b1⟩
      go_wp2_with fail
      refine (c2 _).mono ?_; rintro q w' ⟨rfl, rfl⟩
      go_wp2_with fail
      have ow0 := ow_make8 w1 b1.size
      have b0 := b1.alloc b1.size (.cells #[.int .i64 0, .int .i64 0, .int .i64 0, .int .i64 0, .int .i64 0, .int .i64 0, .int .i64 0, .int .i64 0] 3)
      have s1 := b1.size
      have z0 : w1.heap.size < (w1.alloc (.cells #[.int .i64 0, .int .i64 0, .int .i64 0, .int .i64 0, .int .i64 0, .int .i64 0, .int .i64 0, .int .i64 0] 3)).heap.size := by simp
      generalize w1.alloc _ = w2 at ow0 b0 z0 ⊢
      generalize w1.heap.size = g at ow0 s1 z0 ⊢
      clear hmk
      go_loopw [20] (fun i wr => ∃ k : Nat, k ≤ n ∧ i = .int .i64 k ∧ Below w.heap.size w wr ∧ g < wr.heap.size ∧ Ow Nm.cells 1 3 wr w.heap.size (g + 1) (.slice (some ⟨g, 0, none⟩) 8 8) (Tm.irqAcc x (l.take k))) (fun i _ => n - (intOf i).toNat)
      case atStart => exact ⟨0, Nat.zero_le _, rfl, b0, z0, ow0⟩
      case round =>
        clear ow0 b0 z0
        obtain ⟨k, hk, rfl, hb, hz, ow⟩ := hrel
        by_cases hlt : k < n
        · obtain ⟨b, off, t, rfl, ht, _, hbl, f0, f1, f2, f3⟩ := Tm.get hrd hlt hb hh
          have hok := Tm.good_ok HG.out ht.out
          have hacc := Tm.irqAcc_succ x ht.out
          have hfb := Tm.fires_bd t x hok hx2
          have c3 := fun W => c3 t W hok
          have hq := hok
          simp only [Tm.ok, Bool.and_eq_true] at hq
          have hq := inB_true hq.2.2.1
          obtain ⟨q, hq3⟩ := Int.eq_ofNat_of_zero_le hq.1
          obtain ⟨_, _, y, e, hy, _, _, g0⟩ := Nm.get ow.rd (k := q) (by omega) (Below.refl _ wr) (Nat.le_refl _)
          injection e with e; injection e with e1 e2; subst e1; subst e2
          rw [Nat.zero_add] at g0
          have hyb := Tm.irqAcc_bd hx2 (l.take k) (by
            have := HG.out
            simp only [Tm.good, Bool.and_eq_true, List.all_eq_true] at this
            rw [List.all_eq_true]
            exact fun z hz => this.2 z (List.mem_of_mem_take hz)) y (List.mem_of_getElem? hy.out)
          have hkl : (l.take k).length ≤ 8 := by rw [List.length_take]; omega
          have hA := Lib.hid (show Tm.irqAcc x (l.take (k + 1)) = (Tm.irqAcc x (l.take k)).set q (y + t.fires x) from by
            rw [hacc, Tm.irqAdd, hq3]; simp [hy.out])
          have hq8 : q < 8 := by omega
          have hyb1 := hyb.1
          have hyb2 : y ≤ 1000000 := by omega
          generalize t.fires x = fr at hfb hA c3
          unfold Tm.val at c3
          rw [hq3] at f3 c3
          obtain ⟨hf1, hf2⟩ := hfb
          have hfz := ow.frozen (by omega)
          clear hacc hok hq hq3 hyb
          go_wp2_with fail
          have hz1 : g < wr.heap.size + 1 := by omega
          have hzw : wr.heap.size ≠ g := by omega
          have hq9 : (0 : Int) ≤ (q : Int) := by omega
          have hq10 : (q : Int) < 8 := by omega
          have hwrap : IntKind.i64.wrap (y + fr) = y + fr := IntWalk.i64_in _ (by omega)
          have hb1 := hb.alloc hb.size (.cells #[.bool t.armed, .int .i64 t.next, .int .i64 t.every, .int .i64 q] 25)
          have k0 : (wr.alloc (.cells #[.bool t.armed, .int .i64 t.next, .int .i64 t.every, .int .i64 q] 25)).cell? ⟨wr.heap.size, 0, none⟩ = some (.bool t.armed) := by simp
          have k1 : (wr.alloc (.cells #[.bool t.armed, .int .i64 t.next, .int .i64 t.every, .int .i64 q] 25)).cell? ⟨wr.heap.size, 1, none⟩ = some (.int .i64 t.next) := by simp
          have k2 : (wr.alloc (.cells #[.bool t.armed, .int .i64 t.next, .int .i64 t.every, .int .i64 q] 25)).cell? ⟨wr.heap.size, 2, none⟩ = some (.int .i64 t.every) := by simp
          have k3 : (wr.alloc (.cells #[.bool t.armed, .int .i64 t.next, .int .i64 t.every, .int .i64 q] 25)).cell? ⟨wr.heap.size, 3, none⟩ = some (.int .i64 q) := by simp
          have k4 : (wr.alloc (.cells #[.bool t.armed, .int .i64 t.next, .int .i64 t.every, .int .i64 q] 25)).cell? ⟨g, q, none⟩ = some (.int .i64 y) := by rw [World.cell?_alloc_lt _ _ _ hz]; exact g0
          have ow2 := ow.below ((Below.refl (g + 1) wr).alloc (by omega) (.cells #[.bool t.armed, .int .i64 t.next, .int .i64 t.every, .int .i64 q] 25)) (Nat.le_refl _)
          have hz2 : g < (wr.alloc (.cells #[.bool t.armed, .int .i64 t.next, .int .i64 t.every, .int .i64 q] 25)).heap.size := by simp; omega
          clear f0 f1 f2 f3 g0 hfz ow
          generalize wr.alloc _ = w2 at hb1 k0 k1 k2 k3 k4 ow2 hz2 ⊢
          have e0 := cell_ext k0; have e1 := cell_ext k1; have e2 := cell_ext k2; have e3 := cell_ext k3; have e4 := cell_ext k4
          refine wp_region_ext 9 (by kernel_rfl) (by kernel_rfl) ?_
          simp only [List.take_succ_cons, List.take_zero, List.drop_succ_cons, List.drop_zero]
          repeat (quiet_step ((go_at_call 44; exact calls_ext (c3 _))))
          refine wpQuiet_nil ?_
          intro w3 b3
          clear e0 e1 e2 e3 e4
          have g0 := (b3.cell (p := ⟨g, q, none⟩) hz2).trans k4
          replace ow2 := ow2.below b3 (by omega)
          have hfz := ow2.frozen (by omega)
          go_wp2_with fail
          go_roundw
          case rel =>
            generalize hw : World.setCell _ _ _ = w5
            obtain rfl : w5 = setL w3 g (0 + q) [.int .i64 (y + fr)] := by rw [Nat.zero_add]; exact hw.symm
            refine ⟨k + 1, by omega, by go_num, setL_below (hb1.trans (b3.mono hb1.size)) _ g _ (by omega), setL_size_le (by have := b3.size; omega), ?_⟩
            rw [hA.out]
            have hu : Upd 3 1 w3 (setL w3 g (0 + q * 1) [.int .i64 (y + fr)]) g (0 + q * 1) (Nm.cells y) (Nm.cells (y + fr)) := Upd.of_setL 0 (ys := [.int .i64 (y + fr)]) rfl rfl (by simp)
            rw [Nat.mul_one] at hu
            have := ow2.upd Nm.cells_len (by omega) hy.out (by rw [Nat.mul_one]; exact hu)
            exact this
          case measure => simp [intOf]; omega
        · have hkn : k = n := by omega
          go_wp2_with fail
          go_ret2
          refine ⟨_, by rw [HF.out.1]; rfl, ?_, hlen, hb⟩
          rw [HF.out.2]
          rw [List.take_of_length_le (by rw [← H.out]; omega)] at ow
          exact ow.mono (Nat.le_refl _) hz

theorem specIrqsUpTo_any (v : Value) (l : List Tm) (x : Int) (w : World) {lo hi : Nat} (h : Rd Tm.cells 4 w lo hi v l) (hh : hi ≤ w.heap.size) :
    Calls Try.prog 32 #[v, .int .i64 x] w fun r w' => ∃ v', r = .returned (.tuple #[v', .bool (Tm.irqsOk l x)]) ∧ Rd Nm.cells 1 w' 0 w'.heap.size v' (Tm.irqsR l x) ∧ Below w.heap.size w w' := by
  have c1 := l11Good_any v l w h hh
  have c2 := fun W => l11Tick_any x W
  have hrd := h
  obtain ⟨A, n, c, rfl, H, hc, hm⟩ := h.form
  cases hg : Tm.good l
  · have HF := Lib.hid (show Tm.irqsOk l x = false ∧ Tm.irqsR l x = [] from by simp [Tm.irqsR, Tm.irqsOk, hg])
    rw [hg] at c1
    clear hg
    go_enter Try.func32, Try.ntmps32
    go_wp2_with fail
    refine c1.mono ?_; rintro q w1 ⟨rfl, b1⟩
    go_wp2_with fail
    go_ret2
    exact ⟨_, by rw [HF.out.1]; rfl, by rw [HF.out.2]; exact Rd.empty (by decide), b1.alloc b1.size _⟩
  · cases hi : inB x 0 100000
    · have HF := Lib.hid (show Tm.irqsOk l x = false ∧ Tm.irqsR l x = [] from by simp [Tm.irqsR, Tm.irqsOk, hi])
      rw [hg] at c1
      rw [hi] at c2
      clear hg hi
      go_enter Try.func32, Try.ntmps32
      go_wp2_with fail
      refine c1.mono ?_; rintro q w1 ⟨rfl, b1⟩
      go_wp2_with fail
      refine (c2 _).mono ?_; rintro q w' ⟨rfl, rfl⟩
      go_wp2_with fail
      go_ret2
      exact ⟨_, by rw [HF.out.1]; rfl, by rw [HF.out.2]; exact Rd.empty (by decide), b1.alloc b1.size _⟩
    · have hx := inB_true hi
      have hn8 := Tm.good_len hg
      rw [← H.out] at hn8
      have HG := Lib.hid hg
      have HF := Lib.hid (show Tm.irqsOk l x = true ∧ Tm.irqsR l x = Tm.irqAcc x l from by simp [Tm.irqsR, Tm.irqsOk, hg, hi])
      rw [hg] at c1
      rw [hi] at c2
      obtain ⟨hx1, hx2⟩ := hx
      have c3 := fun t W hk => l11Fires_any t x W hk (by omega) hx2
      have hmk := make8
      clear hg hi
      go_enter Try.func32, Try.ntmps32
      go_wp2_with fail
      refine c1.mono ?_; rintro q w1 ⟨rfl, b1⟩
      go_wp2_with fail
      refine (c2 _).mono ?_; rintro q w' ⟨rfl, rfl⟩
      go_wp2_with fail
      have ow0 := ow_make8 w1 b1.size
      have b0 := b1.alloc b1.size (.cells #[.int .i64 0, .int .i64 0, .int .i64 0, .int .i64 0, .int .i64 0, .int .i64 0, .int .i64 0, .int .i64 0] 3)
      have s1 := b1.size
      have z0 : w1.heap.size < (w1.alloc (.cells #[.int .i64 0, .int .i64 0, .int .i64 0, .int .i64 0, .int .i64 0, .int .i64 0, .int .i64 0, .int .i64 0] 3)).heap.size := by simp
      generalize w1.alloc _ = w2 at ow0 b0 z0 ⊢
      generalize w1.heap.size = g at ow0 s1 z0 ⊢
      clear hmk
      go_loopw [7] (fun i wr => ∃ k : Nat, k ≤ n ∧ i = .int .i64 k ∧ Below w.heap.size w wr ∧ g < wr.heap.size ∧ Ow Nm.cells 1 3 wr w.heap.size (g + 1) (.slice (some ⟨g, 0, none⟩) 8 8) (Tm.irqAcc x (l.take k))) (fun i _ => n - (intOf i).toNat)
      case atStart => exact ⟨0, Nat.zero_le _, rfl, b0, z0, ow0⟩
      case round =>
        clear ow0 b0 z0
        obtain ⟨k, hk, rfl, hb, hz, ow⟩ := hrel
        by_cases hlt : k < n
        · obtain ⟨b, off, t, rfl, ht, _, hbl, f0, f1, f2, f3⟩ := Tm.get hrd hlt hb hh
          have hok := Tm.good_ok HG.out ht.out
          have hacc := Tm.irqAcc_succ x ht.out
          have hfb := Tm.fires_bd t x hok hx2
          have c3 := fun W => c3 t W hok
          have hq := hok
          simp only [Tm.ok, Bool.and_eq_true] at hq
          have hq := inB_true hq.2.2.1
          obtain ⟨q, hq3⟩ := Int.eq_ofNat_of_zero_le hq.1
          obtain ⟨_, _, y, e, hy, _, _, g0⟩ := Nm.get ow.rd (k := q) (by omega) (Below.refl _ wr) (Nat.le_refl _)
          injection e with e; injection e with e1 e2; subst e1; subst e2
          rw [Nat.zero_add] at g0
          have hyb := Tm.irqAcc_bd hx2 (l.take k) (by
            have := HG.out
            simp only [Tm.good, Bool.and_eq_true, List.all_eq_true] at this
            rw [List.all_eq_true]
            exact fun z hz => this.2 z (List.mem_of_mem_take hz)) y (List.mem_of_getElem? hy.out)
          have hkl : (l.take k).length ≤ 8 := by rw [List.length_take]; omega
          have hA := Lib.hid (show Tm.irqAcc x (l.take (k + 1)) = (Tm.irqAcc x (l.take k)).set q (y + t.fires x) from by
            rw [hacc, Tm.irqAdd, hq3]; simp [hy.out])
          have hq8 : q < 8 := by omega
          have hyb1 := hyb.1
          have hyb2 : y ≤ 1000000 := by omega
          generalize t.fires x = fr at hfb hA c3
          unfold Tm.val at c3
          rw [hq3] at f3 c3
          obtain ⟨hf1, hf2⟩ := hfb
          have hfz := ow.frozen (by omega)
          clear hacc hok hq hq3 hyb
          go_wp2_with fail
          have hq9 : (0 : Int) ≤ (q : Int) := by omega
          have hq10 : (q : Int) < 8 := by omega
          have hwrap : IntKind.i64.wrap (y + fr) = y + fr := IntWalk.i64_in _ (by omega)
          have e0 := cell_ext f0; have e1 := cell_ext f1; have e2 := cell_ext f2; have e3 := cell_ext f3; have e4 := cell_ext g0
          clear hfz
          refine wp_region_ext 13 (by kernel_rfl) (by kernel_rfl) ?_
          simp only [List.take_succ_cons, List.take_zero, List.drop_succ_cons, List.drop_zero]
          repeat (quiet_step ((go_at_call 43; exact calls_ext (c3 _))))
          refine wpQuiet_nil ?_
          intro w3 b3
          clear e0 e1 e2 e3 e4
          have g0 := (b3.cell (p := ⟨g, q, none⟩) hz).trans g0
          have ow2 := ow.below b3 (by omega)
          have hfz := ow2.frozen (by omega)
          go_wp2_with fail
          go_roundw
          case rel =>
            generalize hw : World.setCell _ _ _ = w5
            obtain rfl : w5 = setL w3 g (0 + q) [.int .i64 (y + fr)] := by rw [Nat.zero_add]; exact hw.symm
            refine ⟨k + 1, by omega, by go_num, setL_below (hb.trans (b3.mono hb.size)) _ g _ (by omega), setL_size_le (by have := b3.size; omega), ?_⟩
            rw [hA.out]
            have hu : Upd 3 1 w3 (setL w3 g (0 + q * 1) [.int .i64 (y + fr)]) g (0 + q * 1) (Nm.cells y) (Nm.cells (y + fr)) := Upd.of_setL 0 (ys := [.int .i64 (y + fr)]) rfl rfl (by simp)
            rw [Nat.mul_one] at hu
            have := ow2.upd Nm.cells_len (by omega) hy.out (by rw [Nat.mul_one]; exact hu)
            exact this
          case measure => simp [intOf]; omega
        · have hkn : k = n := by omega
          go_wp2_with fail
          go_ret2
          refine ⟨_, by rw [HF.out.1]; rfl, ?_, hb⟩
          rw [HF.out.2]
          rw [List.take_of_length_le (by rw [← H.out]; omega)] at ow
          exact ow.rd.mono (Nat.zero_le _) hz

end Go.Proofs.Ytmblpgocgkfjcaa
