/- The texts of slots, the public functions, in the program and in the reference. No condition. -/
import Derived.Test.YtaggjadgbmmjoaaDoorTxP
import Derived.Test.YtaggjadgbmmjoaaDoorSlAre
namespace Go.Proofs.YtaggjadgbmmjoaaDoor
open Go.RowKit Go.ChangeShapes Go.WideShapes Go.Deep

def Tx.txR (l : List Sl) : ByteArray := if Sl.good l then ⟨(Tx.text l).toArray⟩ else ⟨#[]⟩
theorem Tx.tx_no {l : List Sl} (h : Sl.good l = false) : Tx.txR l = ⟨#[]⟩ := by simp [Tx.txR, h]
theorem Tx.tx_yes {l : List Sl} (h : Sl.good l = true) : Tx.txR l = ⟨(Tx.text l).toArray⟩ := by simp [Tx.txR, h]

theorem specSlotsText_any (v : Value) (l : List Sl) (w : World) {lo hi : Nat} (h : Rd Sl.cells 3 w lo hi v l) (hh : hi ≤ w.heap.size) :
    Calls Tryd.prog 6 #[v] w fun e w' => e = .returned (.tuple #[.string (Tx.txR l), .bool (Sl.good l)]) ∧ Below w.heap.size w w' := by
  have hrd := h
  have c1 := l8Good_any v l w h hh
  have c2 := fun W (k : Below w.heap.size w W) hg => l8Text_any v l W (hrd.below k hh) (Nat.le_trans hh k.size) hg
  obtain ⟨A, n, c, rfl, H, hc, hm⟩ := h.form
  cases hg : Sl.good l
  · rw [hg] at c1
    have HT := Lib.hid (Tx.tx_no hg)
    go_enter Tryd.func6, Tryd.ntmps6
    go_wp2_with fail
    refine c1.mono ?_; rintro q_ w1 ⟨rfl, b1⟩
    go_wp2_with fail
    go_ret2
    exact ⟨by rw [HT.out]; rfl, b1⟩
  · rw [hg] at c1
    have HT := Lib.hid (Tx.tx_yes hg)
    have c2 := fun W k => c2 W k hg
    clear hg
    go_enter Tryd.func6, Tryd.ntmps6
    go_wp2_with fail
    refine c1.mono ?_; rintro q_ w1 ⟨rfl, b1⟩
    go_wp2_with fail
    refine (c2 _ b1).mono ?_; rintro q_ w2 ⟨rfl, m, rfl⟩
    go_wp2_with fail
    go_ret2
    exact ⟨by rw [HT.out]; rfl, below_drewN b1 m⟩
theorem implSlotsText_any (v : Value) (l : List Sl) (w : World) {lo hi : Nat} (h : Rd Sl.cells 3 w lo hi v l) (hh : hi ≤ w.heap.size) :
    Calls Tryd.prog 8 #[v] w fun e w' => e = .returned (.tuple #[.string (Tx.txR l), .bool (Sl.good l)]) ∧ Below w.heap.size w w' := by
  have hrd := h
  have c1 := implAreSlots_any v l w h hh
  have c2 := fun W (k : Below w.heap.size w W) hg => slotsText_any v l W (hrd.below k hh) (Nat.le_trans hh k.size) hg
  obtain ⟨A, n, c, rfl, H, hc, hm⟩ := h.form
  cases hg : Sl.good l
  · rw [hg] at c1
    have HT := Lib.hid (Tx.tx_no hg)
    go_enter Tryd.func8, Tryd.ntmps8
    go_wp2_with fail
    refine c1.mono ?_; rintro q_ w1 ⟨rfl, b1⟩
    go_wp2_with fail
    go_ret2
    exact ⟨by rw [HT.out]; rfl, b1⟩
  · rw [hg] at c1
    have HT := Lib.hid (Tx.tx_yes hg)
    have c2 := fun W k => c2 W k hg
    clear hg
    go_enter Tryd.func8, Tryd.ntmps8
    go_wp2_with fail
    refine c1.mono ?_; rintro q_ w1 ⟨rfl, b1⟩
    go_wp2_with fail
    refine (c2 _ b1).mono ?_; rintro q_ w2 ⟨rfl, b2⟩
    go_wp2_with fail
    go_ret2
    exact ⟨by rw [HT.out]; rfl, b1.trans (b2.mono b1.size)⟩

end Go.Proofs.YtaggjadgbmmjoaaDoor
