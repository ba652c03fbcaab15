/- The library's sort of numbers, of any length, by the kit's contract: the library's functions of this program are those of the contract, number by number. Condition: at most 1048576 numbers. -/
import Derived.Test.YtaobdfgepgalhaaSortS
import Derived.Shelf.Sort.Plain
import Derived.Lib.SortBridge
import Derived.Test.YtaobdfgepgalhaaDelW
namespace Go.Proofs.Ytaobdfgepgalhaa
open Go.RowKit Go.ChangeShapes Go.WideShapes Go.Deep

def laysSort_ren : Go.Shelf.Ren := ⟨fun | 189 => 26 | 125 => 49 | 257 => 48 | 128 => 81 | 129 => 82 | 294 => 72 | 295 => 73 | 296 => 74 | 297 => 75 | 298 => 76 | 299 => 77 | 216 => 78 | 300 => 79 | 301 => 80 | 328 => 101 | 329 => 102 | 330 => 103 | 331 => 104 | 332 => 105 | 215 => 106 | 343 => 109 | n => n, fun | 28 => 22 | 3 => 3 | 46 => 70 | 0 => 0 | 51 => 103 | 53 => 105 | 4 => 4 | 183 => 96 | 182 => 95 | 131 => 40 | 5 => 5 | 9 => 9 | 218 => 118 | 222 => 122 | 228 => 125 | 229 => 126 | n => n, fun | n => n⟩
theorem laysSort : Go.Proofs.Lays.n189 Try.prog laysSort_ren where
  mixed := by kernel_rfl
  f125 := Try.func49.trans (congrArg some (by kernel_rfl))
  f128 := Try.func81.trans (congrArg some (by kernel_rfl))
  f129 := Try.func82.trans (congrArg some (by kernel_rfl))
  f189 := Try.func26.trans (congrArg some (by kernel_rfl))
  f215 := Try.func106.trans (congrArg some (by kernel_rfl))
  f216 := Try.func78.trans (congrArg some (by kernel_rfl))
  f257 := Try.func48.trans (congrArg some (by kernel_rfl))
  f294 := Try.func72.trans (congrArg some (by kernel_rfl))
  f295 := Try.func73.trans (congrArg some (by kernel_rfl))
  f296 := Try.func74.trans (congrArg some (by kernel_rfl))
  f297 := Try.func75.trans (congrArg some (by kernel_rfl))
  f298 := Try.func76.trans (congrArg some (by kernel_rfl))
  f299 := Try.func77.trans (congrArg some (by kernel_rfl))
  f300 := Try.func79.trans (congrArg some (by kernel_rfl))
  f301 := Try.func80.trans (congrArg some (by kernel_rfl))
  f328 := Try.func101.trans (congrArg some (by kernel_rfl))
  f329 := Try.func102.trans (congrArg some (by kernel_rfl))
  f330 := Try.func103.trans (congrArg some (by kernel_rfl))
  f331 := Try.func104.trans (congrArg some (by kernel_rfl))
  f332 := Try.func105.trans (congrArg some (by kernel_rfl))
  f343 := Try.func109.trans (congrArg some (by kernel_rfl))
  t0 := Try.underlying0
  a0 := Try.isAgg0
  z0 := Try.sizeOf0
  v0 := Try.zeroValue0
  t3 := Try.underlying3
  a3 := Try.isAgg3
  z3 := Try.sizeOf3
  v3 := Try.zeroValue3
  t4 := Try.underlying4
  a4 := Try.isAgg4
  z4 := Try.sizeOf4
  v4 := Try.zeroValue4
  t5 := Try.underlying5
  a5 := Try.isAgg5
  z5 := Try.sizeOf5
  v5 := Try.zeroValue5
  t9 := Try.underlying9
  a9 := Try.isAgg9
  z9 := Try.sizeOf9
  v9 := Try.zeroValue9
  t28 := Try.underlying22
  a28 := Try.isAgg22
  z28 := Try.sizeOf22
  v28 := Try.zeroValue22
  t46 := Try.underlying70
  a46 := Try.isAgg70
  z46 := Try.sizeOf70
  v46 := Try.zeroValue70
  t51 := Try.underlying103
  a51 := Try.isAgg103
  z51 := Try.sizeOf103
  v51 := Try.zeroValue103
  t53 := Try.underlying105
  a53 := Try.isAgg105
  z53 := Try.sizeOf105
  v53 := Try.zeroValue105
  t131 := Try.underlying40
  a131 := Try.isAgg40
  z131 := Try.sizeOf40
  v131 := Try.zeroValue40
  t182 := Try.underlying95
  a182 := Try.isAgg95
  z182 := Try.sizeOf95
  v182 := Try.zeroValue95
  t183 := Try.underlying96
  a183 := Try.isAgg96
  z183 := Try.sizeOf96
  v183 := Try.zeroValue96
  t218 := Try.underlying118
  a218 := Try.isAgg118
  z218 := Try.sizeOf118
  v218 := Try.zeroValue118
  t222 := Try.underlying122
  a222 := Try.isAgg122
  z222 := Try.sizeOf122
  v222 := Try.zeroValue122
  t228 := Try.underlying125
  a228 := Try.isAgg125
  z228 := Try.sizeOf125
  v228 := Try.zeroValue125
  t229 := Try.underlying126
  a229 := Try.isAgg126
  z229 := Try.sizeOf126
  v229 := Try.zeroValue126

theorem sortI_any (w0 : World) (A : Option Addr) (n c : Nat) (l : List Int) (hl : l.length ≤ 1048576) (w : World) {hi : Nat} (hb0 : Below w0.heap.size w0 w) (h : Ow Nm.cells 1 3 w w0.heap.size hi (.slice A n c) l) (hh : hi ≤ w.heap.size) :
    Calls Try.prog 26 #[.slice A n c] w fun e w' => e = .returned (.tuple #[]) ∧ Ow Nm.cells 1 3 w' w0.heap.size hi (.slice A n c) (l.mergeSort fun x y => decide (x ≤ y)) ∧ hi ≤ w'.heap.size ∧ Below w0.heap.size w0 w' := by
  have hn := h.rd.n_eq
  rcases Nat.eq_zero_or_pos l.length with h0 | h0
  · have : l = [] := List.eq_nil_of_length_eq_zero h0
    subst this
    have := sortInts_any w0 _ [] (by simp) w hb0 h hh
    simpa [sortK, List.mergeSort] using this
  · have hpos : 0 < n := by omega
    obtain ⟨b, off, x, rfl, _, hb1, hb2, _⟩ := Nm.get h.rd hpos (Below.refl w.heap.size w) hh
    have hcell : ∀ j, j < l.length → w.cell? ⟨b, off + j, none⟩ = some (.int .i64 (l.getD j 0)) := fun j hj => by
      obtain ⟨_, _, y, e, hy, _, _, f0⟩ := Nm.get h.rd (k := j) (by omega) (Below.refl w.heap.size w) hh
      injection e with e
      injection e with e1 e2
      subst e1; subst e2
      rw [f0, List.getD_eq_getElem?_getD, hy.out]; rfl
    have hfz := h.frozen hpos
    have hH := Lib.holds_of_ints (n := n) (zs := l) (w := w) (b := b) (off := off) (by omega) hcell (fun j _ => hfz _)
    have hlt : l.take n = l := List.take_of_length_le (by omega)
    rw [hlt] at hH
    have hcon := Any.slices_Sort_int laysSort b off c l w hH (by omega) (by omega)
    rw [← hn.1] at hcon
    refine hcon.mono ?_
    rintro e w' ⟨rfl, q, os, hw⟩
    have hw2 := hw.trans (Lib.sorted_world _ w b off q _ _ os hH (by simp))
    rw [setCells_setL2] at hw2
    have hml : (l.mergeSort fun x y => decide (x ≤ y)).length = l.length := List.length_mergeSort _
    have hg : (w.drewN q).grownBy w' (some b) := by
      rw [hw2]
      have h1 := setL_grown ((l.mergeSort fun x y => decide (x ≤ y)).map (Value.int .i64)) (w.drewN q) b off
      exact ⟨h1.os, h1.tape, h1.output, Nat.le_trans h1.size (by simp [Go.Sort.grow]), fun i hi hne => by
        rw [← h1.block i hi hne]
        simp only [Go.Sort.grow, Array.getElem?_append]
        rw [if_pos (by have := h1.size; omega)]⟩
    have hsz : w.heap.size ≤ w'.heap.size := hg.size
    refine ⟨rfl, ?_, by omega, (below_drewN hb0 q).grown hg (by have := hb0.size; exact this) (fun j hj => by injection hj with hj; omega)⟩
    obtain ⟨A', c', hv, hc, hm, hx⟩ := h
    injection hv with e1 e2 e3
    subst e1; subst e2; subst e3
    refine ⟨_, c, by rw [hml], by omega, hm, fun _ => ?_⟩
    obtain ⟨b', off', cur, hA, h1, h2, hh', hx⟩ := hx h0
    injection hA with hA
    injection hA with e1 e2
    subst e1; subst e2
    have hsize : off + l.length ≤ cur.size := by
      have hl2 : l[l.length - 1]? = some (l[l.length - 1]'(by omega)) := List.getElem?_eq_getElem _
      have := (Array.getElem?_eq_some_iff.1 (hx _ _ hl2 0 _ rfl)).1
      omega
    obtain ⟨cur', f1, f2, f3, _⟩ := setL_row 3 ((l.mergeSort fun x y => decide (x ≤ y)).map (Value.int .i64)) (w.drewN q) b off cur hh' (by rw [List.length_map, hml]; exact hsize)
    refine ⟨b, off, cur', rfl, h1, h2, ?_, fun k x hk j u hu => ?_⟩
    · rw [hw2]
      simp only [Go.Sort.grow, Array.getElem?_append]
      rw [if_pos (by have := (Array.getElem?_eq_some_iff.1 f1).1; exact this)]
      exact f1
    · have hj : j = 0 := by have := (List.getElem?_eq_some_iff.1 hu).1; simp [Nm.cells] at this; omega
      subst hj
      simp only [Nm.cells, List.getElem?_cons_zero, Option.some.injEq] at hu
      subst hu
      have := f3 k (.int .i64 x) (by rw [List.getElem?_map, hk]; rfl)
      rwa [Nat.mul_one, Nat.add_zero]

end Go.Proofs.Ytaobdfgepgalhaa
