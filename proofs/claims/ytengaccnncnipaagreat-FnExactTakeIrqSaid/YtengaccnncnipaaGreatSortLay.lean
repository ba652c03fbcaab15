/- The library's sort of numbers, of any length, by the kit's contract: the library's functions of this program are those of the contract, number by number. Condition: at most 1048576 numbers. -/
import Derived.Test.YtengaccnncnipaaGreatSortS
import Derived.Shelf.Sort.Plain
import Derived.Lib.SortBridge
import Derived.Test.YtengaccnncnipaaGreatDelW
namespace Go.Proofs.YtengaccnncnipaaGreat
open Go.RowKit Go.ChangeShapes Go.WideShapes Go.Deep

def laysSort_ren : Go.Shelf.Ren := ⟨fun | 189 => 83 | 125 => 127 | 257 => 126 | 128 => 166 | 129 => 167 | 294 => 157 | 295 => 158 | 296 => 159 | 297 => 160 | 298 => 161 | 299 => 162 | 216 => 163 | 300 => 164 | 301 => 165 | 328 => 183 | 329 => 184 | 330 => 185 | 331 => 186 | 332 => 187 | 215 => 188 | 343 => 191 | n => n, fun | 28 => 22 | 3 => 3 | 46 => 125 | 0 => 0 | 51 => 161 | 53 => 96 | 4 => 4 | 183 => 154 | 182 => 153 | 131 => 64 | 5 => 5 | 9 => 9 | 218 => 171 | 222 => 175 | 228 => 178 | 229 => 179 | n => n, fun | n => n⟩
theorem laysSort : Go.Proofs.Lays.n189 Tryz.prog laysSort_ren where
  mixed := by kernel_rfl
  f125 := Tryz.func127.trans (congrArg some (by kernel_rfl))
  f128 := Tryz.func166.trans (congrArg some (by kernel_rfl))
  f129 := Tryz.func167.trans (congrArg some (by kernel_rfl))
  f189 := Tryz.func83.trans (congrArg some (by kernel_rfl))
  f215 := Tryz.func188.trans (congrArg some (by kernel_rfl))
  f216 := Tryz.func163.trans (congrArg some (by kernel_rfl))
  f257 := Tryz.func126.trans (congrArg some (by kernel_rfl))
  f294 := Tryz.func157.trans (congrArg some (by kernel_rfl))
  f295 := Tryz.func158.trans (congrArg some (by kernel_rfl))
  f296 := Tryz.func159.trans (congrArg some (by kernel_rfl))
  f297 := Tryz.func160.trans (congrArg some (by kernel_rfl))
  f298 := Tryz.func161.trans (congrArg some (by kernel_rfl))
  f299 := Tryz.func162.trans (congrArg some (by kernel_rfl))
  f300 := Tryz.func164.trans (congrArg some (by kernel_rfl))
  f301 := Tryz.func165.trans (congrArg some (by kernel_rfl))
  f328 := Tryz.func183.trans (congrArg some (by kernel_rfl))
  f329 := Tryz.func184.trans (congrArg some (by kernel_rfl))
  f330 := Tryz.func185.trans (congrArg some (by kernel_rfl))
  f331 := Tryz.func186.trans (congrArg some (by kernel_rfl))
  f332 := Tryz.func187.trans (congrArg some (by kernel_rfl))
  f343 := Tryz.func191.trans (congrArg some (by kernel_rfl))
  t0 := Tryz.underlying0
  a0 := Tryz.isAgg0
  z0 := Tryz.sizeOf0
  v0 := Tryz.zeroValue0
  t3 := Tryz.underlying3
  a3 := Tryz.isAgg3
  z3 := Tryz.sizeOf3
  v3 := Tryz.zeroValue3
  t4 := Tryz.underlying4
  a4 := Tryz.isAgg4
  z4 := Tryz.sizeOf4
  v4 := Tryz.zeroValue4
  t5 := Tryz.underlying5
  a5 := Tryz.isAgg5
  z5 := Tryz.sizeOf5
  v5 := Tryz.zeroValue5
  t9 := Tryz.underlying9
  a9 := Tryz.isAgg9
  z9 := Tryz.sizeOf9
  v9 := Tryz.zeroValue9
  t28 := Tryz.underlying22
  a28 := Tryz.isAgg22
  z28 := Tryz.sizeOf22
  v28 := Tryz.zeroValue22
  t46 := Tryz.underlying125
  a46 := Tryz.isAgg125
  z46 := Tryz.sizeOf125
  v46 := Tryz.zeroValue125
  t51 := Tryz.underlying161
  a51 := Tryz.isAgg161
  z51 := Tryz.sizeOf161
  v51 := Tryz.zeroValue161
  t53 := Tryz.underlying96
  a53 := Tryz.isAgg96
  z53 := Tryz.sizeOf96
  v53 := Tryz.zeroValue96
  t131 := Tryz.underlying64
  a131 := Tryz.isAgg64
  z131 := Tryz.sizeOf64
  v131 := Tryz.zeroValue64
  t182 := Tryz.underlying153
  a182 := Tryz.isAgg153
  z182 := Tryz.sizeOf153
  v182 := Tryz.zeroValue153
  t183 := Tryz.underlying154
  a183 := Tryz.isAgg154
  z183 := Tryz.sizeOf154
  v183 := Tryz.zeroValue154
  t218 := Tryz.underlying171
  a218 := Tryz.isAgg171
  z218 := Tryz.sizeOf171
  v218 := Tryz.zeroValue171
  t222 := Tryz.underlying175
  a222 := Tryz.isAgg175
  z222 := Tryz.sizeOf175
  v222 := Tryz.zeroValue175
  t228 := Tryz.underlying178
  a228 := Tryz.isAgg178
  z228 := Tryz.sizeOf178
  v228 := Tryz.zeroValue178
  t229 := Tryz.underlying179
  a229 := Tryz.isAgg179
  z229 := Tryz.sizeOf179
  v229 := Tryz.zeroValue179

theorem sortI_any (w0 : World) (A : Option Addr) (n c : Nat) (l : List Int) (hl : l.length ≤ 1048576) (w : World) {hi : Nat} (hb0 : Below w0.heap.size w0 w) (h : Ow Nm.cells 1 3 w w0.heap.size hi (.slice A n c) l) (hh : hi ≤ w.heap.size) :
    Calls Tryz.prog 83 #[.slice A n c] w fun e w' => e = .returned (.tuple #[]) ∧ Ow Nm.cells 1 3 w' w0.heap.size hi (.slice A n c) (l.mergeSort fun x y => decide (x ≤ y)) ∧ hi ≤ w'.heap.size ∧ Below w0.heap.size w0 w' := by
  have hn := h.rd.n_eq
  rcases Nat.eq_zero_or_pos l.length with h0 | h0
  · have : l = [] := List.eq_nil_of_length_eq_zero h0
    subst this
    have := sortInts_any w0 _ [] (by simp) w hb0 h hh
    simpa [sortK, List.mergeSort] using this
  · have hpos : 0 < n := by omega
    obtain ⟨b, off, x, rfl, _, hb1, hb2, _⟩ := Nm.get h.rd hpos (Below.refl w.heap.size w) hh
    have hcell : ∀ j, j < l.length → w.cell? ⟨b, off + j, none⟩ = some (.int .i64 (l.getD j 0)) := fun j hj => by
      obtain ⟨_, _, y, e, hy, _, _, f0⟩ := Nm.get h.rd (k := j) (by omega) (Below.refl w.heap.size w) hh
      injection e with e
      injection e with e1 e2
      subst e1; subst e2
      rw [f0, List.getD_eq_getElem?_getD, hy.out]; rfl
    have hfz := h.frozen hpos
    have hH := Lib.holds_of_ints (n := n) (zs := l) (w := w) (b := b) (off := off) (by omega) hcell (fun j _ => hfz _)
    have hlt : l.take n = l := List.take_of_length_le (by omega)
    rw [hlt] at hH
    have hcon := Any.slices_Sort_int laysSort b off c l w hH (by omega) (by omega)
    rw [← hn.1] at hcon
    refine hcon.mono ?_
    rintro e w' ⟨rfl, q, os, hw⟩
    have hw2 := hw.trans (Lib.sorted_world _ w b off q _ _ os hH (by simp))
    rw [setCells_setL2] at hw2
    have hml : (l.mergeSort fun x y => decide (x ≤ y)).length = l.length := List.length_mergeSort _
    have hg : (w.drewN q).grownBy w' (some b) := by
      rw [hw2]
      have h1 := setL_grown ((l.mergeSort fun x y => decide (x ≤ y)).map (Value.int .i64)) (w.drewN q) b off
      exact ⟨h1.os, h1.tape, h1.output, Nat.le_trans h1.size (by simp [Go.Sort.grow]), fun i hi hne => by
        rw [← h1.block i hi hne]
        simp only [Go.Sort.grow, Array.getElem?_append]
        rw [if_pos (by have := h1.size; omega)]⟩
    have hsz : w.heap.size ≤ w'.heap.size := hg.size
    refine ⟨rfl, ?_, by omega, (below_drewN hb0 q).grown hg (by have := hb0.size; exact this) (fun j hj => by injection hj with hj; omega)⟩
    obtain ⟨A', c', hv, hc, hm, hx⟩ := h
    injection hv with e1 e2 e3
    subst e1; subst e2; subst e3
    refine ⟨_, c, by rw [hml], by omega, hm, fun _ => ?_⟩
    obtain ⟨b', off', cur, hA, h1, h2, hh', hx⟩ := hx h0
    injection hA with hA
    injection hA with e1 e2
    subst e1; subst e2
    have hsize : off + l.length ≤ cur.size := by
      have hl2 : l[l.length - 1]? = some (l[l.length - 1]'(by omega)) := List.getElem?_eq_getElem _
      have := (Array.getElem?_eq_some_iff.1 (hx _ _ hl2 0 _ rfl)).1
      omega
    obtain ⟨cur', f1, f2, f3, _⟩ := setL_row 3 ((l.mergeSort fun x y => decide (x ≤ y)).map (Value.int .i64)) (w.drewN q) b off cur hh' (by rw [List.length_map, hml]; exact hsize)
    refine ⟨b, off, cur', rfl, h1, h2, ?_, fun k x hk j u hu => ?_⟩
    · rw [hw2]
      simp only [Go.Sort.grow, Array.getElem?_append]
      rw [if_pos (by have := (Array.getElem?_eq_some_iff.1 f1).1; exact this)]
      exact f1
    · have hj : j = 0 := by have := (List.getElem?_eq_some_iff.1 hu).1; simp [Nm.cells] at this; omega
      subst hj
      simp only [Nm.cells, List.getElem?_cons_zero, Option.some.injEq] at hu
      subst hu
      have := f3 k (.int .i64 x) (by rw [List.getElem?_map, hk]; rfl)
      rwa [Nat.mul_one, Nat.add_zero]

end Go.Proofs.YtengaccnncnipaaGreat
