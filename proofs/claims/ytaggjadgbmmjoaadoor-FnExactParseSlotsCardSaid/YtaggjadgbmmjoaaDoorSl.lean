/- Slots: finding one, and whether they are valid, in the program and in the reference. No condition. -/
import Derived.Test.YtaggjadgbmmjoaaDoorSmall
import Derived.Test.YtaggjadgbmmjoaaDoorTySlot
import Derived.Test.YtaggjadgbmmjoaaDoorBase3
import Derived.Test.YtaggjadgbmmjoaaDoorRegion
namespace Go.Proofs.YtaggjadgbmmjoaaDoor
open Go.RowKit Go.ChangeShapes Go.WideShapes Go.Deep

def Sl.has (i : Int) (s : Sl) : Bool := !(s.state == 0) && s.irq == i
def Sl.free (s : Sl) : Bool := s.state == 0
def Sl.okAt (l : List Sl) (i : Nat) (s : Sl) : Bool :=
  if s.state = 0 then s.irq == 0 && s.prio == 0 else inB s.state 1 3 && (inB s.irq 0 7 && (inB s.prio 0 15 && !(l.take i).any (Sl.has s.irq)))
def Sl.upTo (l : List Sl) : Nat → Bool
  | 0 => true
  | k + 1 => Sl.upTo l k && (match l[k]? with | some s => Sl.okAt l k s | none => true)
def Sl.good (l : List Sl) : Bool := decide ((l.length : Int) = 4) && Sl.upTo l l.length
theorem Sl.upTo_succ {l : List Sl} {k : Nat} {s : Sl} (h : l[k]? = some s) : Sl.upTo l (k + 1) = (Sl.upTo l k && Sl.okAt l k s) := by simp [Sl.upTo, h]
theorem Sl.upTo_mono {l : List Sl} : ∀ {k m : Nat}, k ≤ m → Sl.upTo l m = true → Sl.upTo l k = true
  | k, 0, h, h2 => by
    obtain rfl : k = 0 := by omega
    exact h2
  | k, m + 1, h, h2 => by
    rcases Nat.eq_or_lt_of_le h with rfl | h
    · exact h2
    · rw [Sl.upTo, Bool.and_eq_true] at h2
      exact Sl.upTo_mono (by omega) h2.1
theorem Sl.upTo_no {l : List Sl} {k : Nat} {s : Sl} (hk : k < l.length) (h : l[k]? = some s) (h2 : Sl.okAt l k s = false) : Sl.good l = false := by
  cases hq : Sl.upTo l l.length
  · simp [Sl.good, hq]
  · have := Sl.upTo_mono (show k + 1 ≤ l.length by omega) hq
    rw [Sl.upTo_succ h, h2] at this
    simp at this
theorem Sl.good_len {l : List Sl} (h : Sl.good l = true) : l.length = 4 := by
  simp only [Sl.good, Bool.and_eq_true, decide_eq_true_eq] at h; omega
theorem Sl.good_one {l : List Sl} (h : Sl.good l = true) {k : Nat} {s : Sl} (hs : l[k]? = some s) : Sl.okAt l k s = true := by
  simp only [Sl.good, Bool.and_eq_true] at h
  have hk := (List.getElem?_eq_some_iff.1 hs).1
  have := Sl.upTo_mono (show k + 1 ≤ l.length by omega) h.2
  rw [Sl.upTo_succ hs, Bool.and_eq_true] at this
  exact this.2
theorem Sl.find_at {l : List Sl} {k : Nat} {s : Sl} (hs : l[k]? = some s) (h0 : ¬ s.state = 0) : (findIx (Sl.has s.irq) l = k) ↔ (l.take k).any (Sl.has s.irq) = false := by
  have hp : Sl.has s.irq s = true := by simp [Sl.has, h0]
  constructor
  · intro h
    have ha : l.any (Sl.has s.irq) = true := List.any_eq_true.2 ⟨s, List.mem_of_getElem? hs, hp⟩
    obtain ⟨k', x, h1, _, _, _, h2⟩ := findIx_spec ha
    rw [h] at h1
    have : k = k' := by omega
    rw [this]; exact h2
  · intro h
    exact findIx_hit h hs hp

theorem l8Find_any (v : Value) (l : List Sl) (i : Int) (w : World) {lo hi : Nat} (h : Rd Sl.cells 3 w lo hi v l) (hh : hi ≤ w.heap.size) : Calls Tryd.prog 29 #[v, .int .i64 i] w fun e w' => e = .returned (.int .i64 (findIx (Sl.has i) l)) ∧ w = w' := by
  obtain ⟨A, n, c, rfl, H, hc, hm⟩ := h.form
  go_enter Tryd.func29, Tryd.ntmps29
  go_wp2_with fail
  go_loop [5] (fun j => ∃ k : Nat, k ≤ n ∧ j = .int .i64 k ∧ (l.take k).any (Sl.has i) = false) (fun j => n - (intOf j).toNat)
  case atStart => exact ⟨0, Nat.zero_le _, rfl, by simp⟩
  case round =>
    obtain ⟨k, hk, rfl, he⟩ := hrel
    have HE := Lib.hid he
    clear he
    by_cases hlt : k < n
    · obtain ⟨b, off, s, rfl, hs, _, _, f0, f1, f2⟩ := Sl.get h hlt (Below.refl w.heap.size w) hh
      have HN := Lib.hid (fun (hq : Sl.has i s = false) => show (l.take (k + 1)).any (Sl.has i) = false from by rw [List.take_add_one, List.any_append, HE.out, hs.out]; simp [hq])
      by_cases h1 : s.state = 0
      · have HF := Lib.hid (HN.out (by simp [Sl.has, h1]))
        rw [h1] at f0
        clear h1
        go_wp2_with fail
        go_round
        case rel => exact ⟨k + 1, by omega, by go_num, HF.out⟩
        case measure => simp [intOf]; omega
      · by_cases h2 : s.irq = i
        · have HF := Lib.hid (findIx_hit HE.out hs.out (show Sl.has i s = true from by simp [Sl.has, h1, h2]))
          go_wp2_with fail
          go_ret
          exact ⟨ret_int HF.out.symm, rfl⟩
        · have HF := Lib.hid (HN.out (by simp [Sl.has, h2]))
          go_wp2_with fail
          go_round
          case rel => exact ⟨k + 1, by omega, by go_num, HF.out⟩
          case measure => simp [intOf]; omega
    · go_wp2_with fail
      go_ret
      have he := HE.out
      rw [List.take_of_length_le (by rw [← H.out]; omega)] at he
      exact ⟨ret_int (by simp [findIx, he]), rfl⟩
theorem findClo_any (i : Int) (w : World) {B : Nat} (hB : w.cell? ⟨B, 0, none⟩ = some (.int .i64 i)) (hz : B < w.heap.size) (s : Sl) (W : World) (hb : Below w.heap.size w W) :
    Calls Tryd.prog 42 (#[s.val] ++ #[.pointer (some ⟨B, 0, none⟩)]) W fun e w' => e = .returned (.bool (Sl.has i s)) ∧ Below W.heap.size W w' := by
  rw [← hb.cell (p := ⟨B, 0, none⟩) hz] at hB
  have hBz : B < W.heap.size := Nat.lt_of_lt_of_le hz hb.size
  clear hb hz
  unfold Sl.val
  by_cases h1 : s.state = 0
  · rw [h1]
    have HF := Lib.hid (show Sl.has i s = false from by simp [Sl.has, h1])
    go_enter Tryd.func42, Tryd.ntmps42
    go_wp2
    go_ret
    exact ⟨ret_bool HF.out.symm, by go_grown⟩
  · by_cases h2 : s.irq = i
    · have HF := Lib.hid (show Sl.has i s = true from by simp [Sl.has, h1, h2])
      rw [h2]
      clear h2
      go_enter Tryd.func42, Tryd.ntmps42
      go_wp2
      go_ret
      exact ⟨ret_bool HF.out.symm, by go_grown⟩
    · have HF := Lib.hid (show Sl.has i s = false from by simp [Sl.has, h2])
      go_enter Tryd.func42, Tryd.ntmps42
      go_wp2
      go_ret
      exact ⟨ret_bool (by rw [HF.out]; simp [h2]), by go_grown⟩

theorem findSlot_any (v : Value) (l : List Sl) (i : Int) (w : World) {lo hi : Nat} (h : Rd Sl.cells 3 w lo hi v l) (hh : hi ≤ w.heap.size) : Calls Tryd.prog 34 #[v, .int .i64 i] w fun e w' => e = .returned (.int .i64 (findIx (Sl.has i) l)) ∧ Below w.heap.size w w' := by
  have b0 := (Below.refl w.heap.size w).alloc (Nat.le_refl _) (.cells #[.int .i64 i] 3)
  have k0 : (w.alloc (.cells #[.int .i64 i] 3)).cell? ⟨w.heap.size, 0, none⟩ = some (.int .i64 i) := by simp
  have z0 : (w.alloc (.cells #[.int .i64 i] 3)).heap.size = w.heap.size + 1 := by simp
  have hrd := h.below b0 hh
  have c1 := Sl.index_any 42 #[.pointer (some ⟨w.heap.size, 0, none⟩)] (Sl.has i) v l _ hrd (by omega) (enters Tryd.func42 (by kernel_rfl) rfl) (fun t W _ hW => findClo_any i _ k0 (by omega) t W hW)
  obtain ⟨A, n, c, rfl, H, hc, hm⟩ := h.form
  go_enter Tryd.func34, Tryd.ntmps34
  go_wp2_with fail
  refine c1.mono ?_; rintro e w1 ⟨rfl, b1⟩
  go_wp2_with fail
  go_ret
  exact ⟨rfl, b0.trans (b1.mono (by omega))⟩

end Go.Proofs.YtaggjadgbmmjoaaDoor
