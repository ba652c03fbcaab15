/- The chosen interrupts of lines, in the program. No condition. -/
import Derived.Test.YtgnalbfepkcokaaLnCount
namespace Go.Proofs.Ytgnalbfepkcokaa
open Go.RowKit Go.ChangeShapes Go.WideShapes Go.Deep

def Ln.at_ (i : Int) (x : Ln) : Bool := x.irq == i
def Ln.atR (i : Int) (x : Ln) : Bool := x.irq == i && x.raised
def Ln.atE (i : Int) (x : Ln) : Bool := x.irq == i && x.kind == 0
def Ln.sharedP (l : List Ln) (i : Nat) : Bool := decide (2 ≤ l.countP (Ln.at_ i))
def Ln.raisedP (l : List Ln) (i : Nat) : Bool := decide (0 < l.countP (Ln.atR i))
def Ln.mixedP (l : List Ln) (i : Nat) : Bool := decide (0 < l.countP (Ln.atE i)) && decide (l.countP (Ln.atE i) < l.countP (Ln.at_ i))
def Ln.irqsR (p : List Ln → Nat → Bool) (l : List Ln) : List Int := if Ln.good l then irqsL (p l) 8 else []
theorem Ln.irqsR_len (p : List Ln → Nat → Bool) (l : List Ln) : (Ln.irqsR p l).length ≤ 1048576 := by
  unfold Ln.irqsR; split
  · have := irqsL_len (p l) 8; omega
  · simp

theorem inShared_any (i : Int) (t : Ln) (W : World) {B : Nat} (hB : W.cell? ⟨B, 0, none⟩ = some (.int .i64 i)) : Calls Try.prog 96 (#[t.val] ++ #[.pointer (some ⟨B, 0, none⟩)]) W fun e w' => e = .returned (.bool (Ln.at_ i t)) ∧ Below W.heap.size W w' := by
  have hlt := World.block_lt_of_cell? W _ hB
  have hne : B ≠ W.heap.size := by simp at hlt; omega
  simp at hlt
  unfold Ln.val
  by_cases hi : t.irq = i
  · have HF := Lib.hid (show Ln.at_ i t = true from by simp [Ln.at_, hi])
    rw [hi]
    clear hi
    go_enter Try.func96, Try.ntmps96
    go_wp2
    all_goals (go_ret; exact ⟨ret_bool (by rw [HF.out]), (Below.refl _ _).alloc (Nat.le_refl _) _⟩)
  · have HF := Lib.hid (show Ln.at_ i t = false from by simp [Ln.at_, hi])
    go_enter Try.func96, Try.ntmps96
    go_wp2
    all_goals (go_ret; exact ⟨ret_bool (by first | exact HF.out.symm | (rw [HF.out]; simp [hi])), (Below.refl _ _).alloc (Nat.le_refl _) _⟩)
theorem inRaised_any (i : Int) (t : Ln) (W : World) {B : Nat} (hB : W.cell? ⟨B, 0, none⟩ = some (.int .i64 i)) : Calls Try.prog 86 (#[t.val] ++ #[.pointer (some ⟨B, 0, none⟩)]) W fun e w' => e = .returned (.bool (Ln.atR i t)) ∧ Below W.heap.size W w' := by
  have hlt := World.block_lt_of_cell? W _ hB
  have hne : B ≠ W.heap.size := by simp at hlt; omega
  simp at hlt
  unfold Ln.val
  by_cases hi : t.irq = i
  · have HF := Lib.hid (show Ln.atR i t = t.raised from by simp [Ln.atR, hi])
    rw [hi]
    clear hi
    go_enter Try.func86, Try.ntmps86
    go_wp2
    all_goals (go_ret; exact ⟨ret_bool (by rw [HF.out]), (Below.refl _ _).alloc (Nat.le_refl _) _⟩)
  · have HF := Lib.hid (show Ln.atR i t = false from by simp [Ln.atR, hi])
    go_enter Try.func86, Try.ntmps86
    go_wp2
    all_goals (go_ret; exact ⟨ret_bool (by first | exact HF.out.symm | (rw [HF.out]; simp [hi])), (Below.refl _ _).alloc (Nat.le_refl _) _⟩)
theorem inMixed1_any (i : Int) (t : Ln) (W : World) {B : Nat} (hB : W.cell? ⟨B, 0, none⟩ = some (.int .i64 i)) : Calls Try.prog 93 (#[t.val] ++ #[.pointer (some ⟨B, 0, none⟩)]) W fun e w' => e = .returned (.bool (Ln.atE i t)) ∧ Below W.heap.size W w' := by
  have hlt := World.block_lt_of_cell? W _ hB
  have hne : B ≠ W.heap.size := by simp at hlt; omega
  simp at hlt
  unfold Ln.val
  by_cases hi : t.irq = i
  · have HF := Lib.hid (show Ln.atE i t = (t.kind == 0) from by simp [Ln.atE, hi])
    rw [hi]
    clear hi
    go_enter Try.func93, Try.ntmps93
    go_wp2
    all_goals (go_ret; exact ⟨ret_bool (by rw [HF.out]; try rfl), (Below.refl _ _).alloc (Nat.le_refl _) _⟩)
  · have HF := Lib.hid (show Ln.atE i t = false from by simp [Ln.atE, hi])
    go_enter Try.func93, Try.ntmps93
    go_wp2
    all_goals (go_ret; exact ⟨ret_bool (by first | exact HF.out.symm | (rw [HF.out]; simp [hi])), (Below.refl _ _).alloc (Nat.le_refl _) _⟩)
theorem inMixed2_any (i : Int) (t : Ln) (W : World) {B : Nat} (hB : W.cell? ⟨B, 0, none⟩ = some (.int .i64 i)) : Calls Try.prog 94 (#[t.val] ++ #[.pointer (some ⟨B, 0, none⟩)]) W fun e w' => e = .returned (.bool (Ln.at_ i t)) ∧ Below W.heap.size W w' := by
  have hlt := World.block_lt_of_cell? W _ hB
  have hne : B ≠ W.heap.size := by simp at hlt; omega
  simp at hlt
  unfold Ln.val
  by_cases hi : t.irq = i
  · have HF := Lib.hid (show Ln.at_ i t = true from by simp [Ln.at_, hi])
    rw [hi]
    clear hi
    go_enter Try.func94, Try.ntmps94
    go_wp2
    all_goals (go_ret; exact ⟨ret_bool (by rw [HF.out]), (Below.refl _ _).alloc (Nat.le_refl _) _⟩)
  · have HF := Lib.hid (show Ln.at_ i t = false from by simp [Ln.at_, hi])
    go_enter Try.func94, Try.ntmps94
    go_wp2
    all_goals (go_ret; exact ⟨ret_bool (by first | exact HF.out.symm | (rw [HF.out]; simp [hi])), (Below.refl _ _).alloc (Nat.le_refl _) _⟩)
theorem inTake_any (i : Int) (t : Ln) (W : World) {B : Nat} (hB : W.cell? ⟨B, 0, none⟩ = some (.int .i64 i)) : Calls Try.prog 82 (#[t.val] ++ #[.pointer (some ⟨B, 0, none⟩)]) W fun e w' => e = .returned (.bool (Ln.atR i t)) ∧ Below W.heap.size W w' := by
  have hlt := World.block_lt_of_cell? W _ hB
  have hne : B ≠ W.heap.size := by simp at hlt; omega
  simp at hlt
  unfold Ln.val
  by_cases hi : t.irq = i
  · have HF := Lib.hid (show Ln.atR i t = t.raised from by simp [Ln.atR, hi])
    rw [hi]
    clear hi
    go_enter Try.func82, Try.ntmps82
    go_wp2
    all_goals (go_ret; exact ⟨ret_bool (by rw [HF.out]), (Below.refl _ _).alloc (Nat.le_refl _) _⟩)
  · have HF := Lib.hid (show Ln.atR i t = false from by simp [Ln.atR, hi])
    go_enter Try.func82, Try.ntmps82
    go_wp2
    all_goals (go_ret; exact ⟨ret_bool (by first | exact HF.out.symm | (rw [HF.out]; simp [hi])), (Below.refl _ _).alloc (Nat.le_refl _) _⟩)
theorem outShared_any (v : Value) (l : List Ln) (w : World) {lo hi B : Nat} (h : Rd Ln.cells 4 w lo hi v l) (hh : hi ≤ w.heap.size) (hB : w.cell? ⟨B, 0, none⟩ = some v) (i : Nat) (W : World) (hb : Below w.heap.size w W) :
    Calls Try.prog 95 (#[.int .i64 i] ++ #[.pointer (some ⟨B, 0, none⟩)]) W fun e w' => e = .returned (.bool (Ln.sharedP l i)) ∧ Below W.heap.size W w' := by
  have hlt := World.block_lt_of_cell? w _ hB
  simp at hlt
  have hBW : W.cell? ⟨B, 0, none⟩ = some v := (hb.cell (p := ⟨B, 0, none⟩) hlt).trans hB
  have hltW : B < W.heap.size := by have := hb.size; omega
  have hne : B ≠ W.heap.size := by omega
  have hb2 := hb.alloc hb.size (.cells #[.int .i64 i] 3)
  have k0 : (W.alloc (.cells #[.int .i64 i] 3)).cell? ⟨W.heap.size, 0, none⟩ = some (.int .i64 i) := by simp
  have c1 := countLines_any 96 #[.pointer (some ⟨W.heap.size, 0, none⟩)] (Ln.at_ i) v l (W.alloc (.cells #[.int .i64 i] 3)) (h.below hb2 hh) (by have := hb2.size; omega) (enters Try.func96 (by kernel_rfl) rfl) (fun t W2 k2 => inShared_any i t W2 ((k2.cell (p := ⟨W.heap.size, 0, none⟩) (by simp)).trans k0))
  obtain ⟨A, n, c, rfl, H, hc, hm⟩ := h.form
  have hq1 : l.countP (Ln.at_ i) ≤ n := by rw [H.out]; exact List.countP_le_length
  have HF := Lib.hid (show Ln.sharedP l i = decide (2 ≤ l.countP (Ln.at_ i)) from rfl)
  generalize l.countP (Ln.at_ i) = q at c1 HF hq1
  clear hb2 k0
  go_enter Try.func95, Try.ntmps95
  go_wp2_with fail
  refine c1.mono ?_; rintro e w1 ⟨rfl, b1⟩
  go_wp2_with fail
  go_ret
  exact ⟨ret_bool (by rw [HF.out] <;> (apply Bool.eq_iff_iff.2; simp <;> omega)), ((Below.refl _ _).alloc (Nat.le_refl _) _).trans (b1.mono (by simp))⟩
theorem outRaised_any (v : Value) (l : List Ln) (w : World) {lo hi B : Nat} (h : Rd Ln.cells 4 w lo hi v l) (hh : hi ≤ w.heap.size) (hB : w.cell? ⟨B, 0, none⟩ = some v) (i : Nat) (W : World) (hb : Below w.heap.size w W) :
    Calls Try.prog 85 (#[.int .i64 i] ++ #[.pointer (some ⟨B, 0, none⟩)]) W fun e w' => e = .returned (.bool (Ln.raisedP l i)) ∧ Below W.heap.size W w' := by
  have hlt := World.block_lt_of_cell? w _ hB
  simp at hlt
  have hBW : W.cell? ⟨B, 0, none⟩ = some v := (hb.cell (p := ⟨B, 0, none⟩) hlt).trans hB
  have hltW : B < W.heap.size := by have := hb.size; omega
  have hne : B ≠ W.heap.size := by omega
  have hb2 := hb.alloc hb.size (.cells #[.int .i64 i] 3)
  have k0 : (W.alloc (.cells #[.int .i64 i] 3)).cell? ⟨W.heap.size, 0, none⟩ = some (.int .i64 i) := by simp
  have c1 := countLines_any 86 #[.pointer (some ⟨W.heap.size, 0, none⟩)] (Ln.atR i) v l (W.alloc (.cells #[.int .i64 i] 3)) (h.below hb2 hh) (by have := hb2.size; omega) (enters Try.func86 (by kernel_rfl) rfl) (fun t W2 k2 => inRaised_any i t W2 ((k2.cell (p := ⟨W.heap.size, 0, none⟩) (by simp)).trans k0))
  obtain ⟨A, n, c, rfl, H, hc, hm⟩ := h.form
  have hq1 : l.countP (Ln.atR i) ≤ n := by rw [H.out]; exact List.countP_le_length
  have HF := Lib.hid (show Ln.raisedP l i = decide (0 < l.countP (Ln.atR i)) from rfl)
  generalize l.countP (Ln.atR i) = q at c1 HF hq1
  clear hb2 k0
  go_enter Try.func85, Try.ntmps85
  go_wp2_with fail
  refine c1.mono ?_; rintro e w1 ⟨rfl, b1⟩
  go_wp2_with fail
  go_ret
  exact ⟨ret_bool (by rw [HF.out] <;> (apply Bool.eq_iff_iff.2; simp <;> omega)), ((Below.refl _ _).alloc (Nat.le_refl _) _).trans (b1.mono (by simp))⟩
theorem outMixed_any (v : Value) (l : List Ln) (w : World) {lo hi B : Nat} (h : Rd Ln.cells 4 w lo hi v l) (hh : hi ≤ w.heap.size) (hB : w.cell? ⟨B, 0, none⟩ = some v) (i : Nat) (W : World) (hb : Below w.heap.size w W) :
    Calls Try.prog 92 (#[.int .i64 i] ++ #[.pointer (some ⟨B, 0, none⟩)]) W fun e w' => e = .returned (.bool (Ln.mixedP l i)) ∧ Below W.heap.size W w' := by
  have hlt := World.block_lt_of_cell? w _ hB
  simp at hlt
  have hBW : W.cell? ⟨B, 0, none⟩ = some v := (hb.cell (p := ⟨B, 0, none⟩) hlt).trans hB
  have hltW : B < W.heap.size := by have := hb.size; omega
  have hne : B ≠ W.heap.size := by omega
  have hb2 := hb.alloc hb.size (.cells #[.int .i64 i] 3)
  have k0 : (W.alloc (.cells #[.int .i64 i] 3)).cell? ⟨W.heap.size, 0, none⟩ = some (.int .i64 i) := by simp
  have c1 := countLines_any 93 #[.pointer (some ⟨W.heap.size, 0, none⟩)] (Ln.atE i) v l (W.alloc (.cells #[.int .i64 i] 3)) (h.below hb2 hh) (by have := hb2.size; omega) (enters Try.func93 (by kernel_rfl) rfl) (fun t W2 k2 => inMixed1_any i t W2 ((k2.cell (p := ⟨W.heap.size, 0, none⟩) (by simp)).trans k0))
  have c2 := fun (W3 : World) (k3 : Below (W.alloc (.cells #[.int .i64 i] 3)).heap.size (W.alloc (.cells #[.int .i64 i] 3)) W3) => countLines_any 94 #[.pointer (some ⟨W.heap.size, 0, none⟩)] (Ln.at_ i) v l W3 ((h.below hb2 hh).below k3 (by have := hb2.size; omega)) (by have := hb2.size; have := k3.size; omega) (enters Try.func94 (by kernel_rfl) rfl) (fun t W2 k2 => inMixed2_any i t W2 ((k2.cell (p := ⟨W.heap.size, 0, none⟩) (by have := k3.size; simp at this ⊢; omega)).trans ((k3.cell (p := ⟨W.heap.size, 0, none⟩) (by simp)).trans k0)))
  obtain ⟨A, n, c, rfl, H, hc, hm⟩ := h.form
  have hq1 : l.countP (Ln.atE i) ≤ n := by rw [H.out]; exact List.countP_le_length
  have hq2 : l.countP (Ln.at_ i) ≤ n := by rw [H.out]; exact List.countP_le_length
  have HF := Lib.hid (show Ln.mixedP l i = (decide (0 < l.countP (Ln.atE i)) && decide (l.countP (Ln.atE i) < l.countP (Ln.at_ i))) from rfl)
  generalize l.countP (Ln.atE i) = q at c1 HF hq1
  generalize l.countP (Ln.at_ i) = q2 at c2 HF hq2
  clear hb2 k0
  go_enter Try.func92, Try.ntmps92
  go_wp2_with fail
  refine c1.mono ?_; rintro e w1 ⟨rfl, b1⟩
  have hB1 : w1.cell? ⟨B, 0, none⟩ = some (.slice A n c) := (b1.cell (p := ⟨B, 0, none⟩) (by simp <;> omega)).trans (by rw [World.cell?_alloc_lt _ _ _ hltW]; exact hBW)
  have c2 := c2 w1 b1
  by_cases hq0 : 0 < q
  · go_wp2_with fail
    refine c2.mono ?_; rintro e w2 ⟨rfl, b2⟩
    go_wp2_with fail
    go_ret
    exact ⟨ret_bool (by rw [HF.out]; simp [hq0]), (((Below.refl _ _).alloc (Nat.le_refl _) _).trans (b1.mono (by simp))).trans (b2.mono (by have := b1.size; simp at this; omega))⟩
  · go_wp2_with fail
    go_ret
    exact ⟨ret_bool (by rw [HF.out]; simp [hq0]), ((Below.refl _ _).alloc (Nat.le_refl _) _).trans (b1.mono (by simp))⟩
theorem implSharedIrqs_any (v : Value) (l : List Ln) (w : World) {lo hi : Nat} (h : Rd Ln.cells 4 w lo hi v l) (hh : hi ≤ w.heap.size) :
    Calls Try.prog 32 #[v] w fun r w' => ∃ v', r = .returned (.tuple #[v', .bool (Ln.good l)]) ∧ Ow Nm.cells 1 3 w' w.heap.size w'.heap.size v' (Ln.irqsR Ln.sharedP l) ∧ (Ln.irqsR Ln.sharedP l).length ≤ 1048576 ∧ Below w.heap.size w w' := by
  have hlen := Ln.irqsR_len Ln.sharedP l
  have b0 := (Below.refl w.heap.size w).alloc (Nat.le_refl _) (.cells #[v] 33)
  have c1 := implAreLines_any v l (w.alloc (.cells #[v] 33)) (h.below b0 hh) (by simp; omega)
  have c2 := fun (W : World) (k : Below (w.alloc (.cells #[v] 33)).heap.size (w.alloc (.cells #[v] 33)) W) =>
    irqsWhere_any 95 #[.pointer (some ⟨w.heap.size, 0, none⟩)] (Ln.sharedP l) W (enters Try.func95 (by kernel_rfl) rfl)
      (fun i W2 _ k2 => outShared_any v l W ((h.below b0 hh).below k (by simp; omega)) (by have := k.size; simp at this; omega) ((k.cell (p := ⟨w.heap.size, 0, none⟩) (by simp)).trans (by simp)) i W2 k2)
  obtain ⟨A, n, c, rfl, H, hc, hm⟩ := h.form
  cases hg : Ln.good l
  · have HF := Lib.hid (show Ln.irqsR Ln.sharedP l = [] from by simp [Ln.irqsR, hg])
    rw [hg] at c1
    clear hg c2
    go_enter Try.func32, Try.ntmps32
    go_wp2_with fail
    refine c1.mono ?_; rintro q w1 ⟨rfl, b1⟩
    go_wp2_with fail
    go_ret2
    exact ⟨_, rfl, by rw [HF.out]; exact Ow.nil_, hlen, b0.trans (b1.mono (by simp))⟩
  · have HF := Lib.hid (show Ln.irqsR Ln.sharedP l = irqsL (Ln.sharedP l) 8 from by simp [Ln.irqsR, hg])
    rw [hg] at c1
    clear hg
    go_enter Try.func32, Try.ntmps32
    go_wp2_with fail
    refine c1.mono ?_; rintro q w1 ⟨rfl, b1⟩
    have c2 := c2 w1 b1
    go_wp2_with fail
    refine c2.mono ?_; rintro q w2 ⟨v', rfl, o2, b2⟩
    go_wp2_with fail
    go_ret2
    exact ⟨_, rfl, by rw [HF.out]; exact o2.mono (by have := b1.size; simp at this; omega) (Nat.le_refl _), hlen, (b0.trans (b1.mono (by simp))).trans (b2.mono (by have := b1.size; simp at this; omega))⟩
theorem implMixedIrqs_any (v : Value) (l : List Ln) (w : World) {lo hi : Nat} (h : Rd Ln.cells 4 w lo hi v l) (hh : hi ≤ w.heap.size) :
    Calls Try.prog 31 #[v] w fun r w' => ∃ v', r = .returned (.tuple #[v', .bool (Ln.good l)]) ∧ Ow Nm.cells 1 3 w' w.heap.size w'.heap.size v' (Ln.irqsR Ln.mixedP l) ∧ (Ln.irqsR Ln.mixedP l).length ≤ 1048576 ∧ Below w.heap.size w w' := by
  have hlen := Ln.irqsR_len Ln.mixedP l
  have b0 := (Below.refl w.heap.size w).alloc (Nat.le_refl _) (.cells #[v] 33)
  have c1 := implAreLines_any v l (w.alloc (.cells #[v] 33)) (h.below b0 hh) (by simp; omega)
  have c2 := fun (W : World) (k : Below (w.alloc (.cells #[v] 33)).heap.size (w.alloc (.cells #[v] 33)) W) =>
    irqsWhere_any 92 #[.pointer (some ⟨w.heap.size, 0, none⟩)] (Ln.mixedP l) W (enters Try.func92 (by kernel_rfl) rfl)
      (fun i W2 _ k2 => outMixed_any v l W ((h.below b0 hh).below k (by simp; omega)) (by have := k.size; simp at this; omega) ((k.cell (p := ⟨w.heap.size, 0, none⟩) (by simp)).trans (by simp)) i W2 k2)
  obtain ⟨A, n, c, rfl, H, hc, hm⟩ := h.form
  cases hg : Ln.good l
  · have HF := Lib.hid (show Ln.irqsR Ln.mixedP l = [] from by simp [Ln.irqsR, hg])
    rw [hg] at c1
    clear hg c2
    go_enter Try.func31, Try.ntmps31
    go_wp2_with fail
    refine c1.mono ?_; rintro q w1 ⟨rfl, b1⟩
    go_wp2_with fail
    go_ret2
    exact ⟨_, rfl, by rw [HF.out]; exact Ow.nil_, hlen, b0.trans (b1.mono (by simp))⟩
  · have HF := Lib.hid (show Ln.irqsR Ln.mixedP l = irqsL (Ln.mixedP l) 8 from by simp [Ln.irqsR, hg])
    rw [hg] at c1
    clear hg
    go_enter Try.func31, Try.ntmps31
    go_wp2_with fail
    refine c1.mono ?_; rintro q w1 ⟨rfl, b1⟩
    have c2 := c2 w1 b1
    go_wp2_with fail
    refine c2.mono ?_; rintro q w2 ⟨v', rfl, o2, b2⟩
    go_wp2_with fail
    go_ret2
    exact ⟨_, rfl, by rw [HF.out]; exact o2.mono (by have := b1.size; simp at this; omega) (Nat.le_refl _), hlen, (b0.trans (b1.mono (by simp))).trans (b2.mono (by have := b1.size; simp at this; omega))⟩
theorem implRaisedIrqs_any (v : Value) (l : List Ln) (w : World) {lo hi : Nat} (h : Rd Ln.cells 4 w lo hi v l) (hh : hi ≤ w.heap.size) :
    Calls Try.prog 25 #[v] w fun r w' => ∃ v', r = .returned (.tuple #[v', .bool (Ln.good l)]) ∧ Ow Nm.cells 1 3 w' w.heap.size w'.heap.size v' (Ln.irqsR Ln.raisedP l) ∧ (Ln.irqsR Ln.raisedP l).length ≤ 1048576 ∧ Below w.heap.size w w' := by
  have hlen := Ln.irqsR_len Ln.raisedP l
  have b0 := (Below.refl w.heap.size w).alloc (Nat.le_refl _) (.cells #[v] 33)
  have c1 := implAreLines_any v l (w.alloc (.cells #[v] 33)) (h.below b0 hh) (by simp; omega)
  have c2 := fun (W : World) (k : Below (w.alloc (.cells #[v] 33)).heap.size (w.alloc (.cells #[v] 33)) W) =>
    irqsWhere_any 85 #[.pointer (some ⟨w.heap.size, 0, none⟩)] (Ln.raisedP l) W (enters Try.func85 (by kernel_rfl) rfl)
      (fun i W2 _ k2 => outRaised_any v l W ((h.below b0 hh).below k (by simp; omega)) (by have := k.size; simp at this; omega) ((k.cell (p := ⟨w.heap.size, 0, none⟩) (by simp)).trans (by simp)) i W2 k2)
  obtain ⟨A, n, c, rfl, H, hc, hm⟩ := h.form
  cases hg : Ln.good l
  · have HF := Lib.hid (show Ln.irqsR Ln.raisedP l = [] from by simp [Ln.irqsR, hg])
    rw [hg] at c1
    clear hg c2
    go_enter Try.func25, Try.ntmps25
    go_wp2_with fail
    refine c1.mono ?_; rintro q w1 ⟨rfl, b1⟩
    go_wp2_with fail
    go_ret2
    exact ⟨_, rfl, by rw [HF.out]; exact Ow.nil_, hlen, b0.trans (b1.mono (by simp))⟩
  · have HF := Lib.hid (show Ln.irqsR Ln.raisedP l = irqsL (Ln.raisedP l) 8 from by simp [Ln.irqsR, hg])
    rw [hg] at c1
    clear hg
    go_enter Try.func25, Try.ntmps25
    go_wp2_with fail
    refine c1.mono ?_; rintro q w1 ⟨rfl, b1⟩
    have c2 := c2 w1 b1
    go_wp2_with fail
    refine c2.mono ?_; rintro q w2 ⟨v', rfl, o2, b2⟩
    go_wp2_with fail
    go_ret2
    exact ⟨_, rfl, by rw [HF.out]; exact o2.mono (by have := b1.size; simp at this; omega) (Nat.le_refl _), hlen, (b0.trans (b1.mono (by simp))).trans (b2.mono (by have := b1.size; simp at this; omega))⟩

end Go.Proofs.Ytgnalbfepkcokaa
