/- The waiting interrupts of a queue: their validity, in the program and in the reference. No condition. -/
import Derived.Test.YtaggjadgbmmjoaaSlOps
import Derived.Test.YtaggjadgbmmjoaaUrg
import Derived.Test.YtaggjadgbmmjoaaSlPend
namespace Go.Proofs.Ytaggjadgbmmjoaa
open Go.RowKit Go.ChangeShapes Go.WideShapes Go.Deep

theorem nodup_bound : ∀ (k : Nat) (l : List Int), l.Nodup → (∀ x ∈ l, 0 ≤ x ∧ x < k) → l.length ≤ k
  | 0, l, _, hb => by
    cases l with
    | nil => simp
    | cons x l => have := hb x (by simp); omega
  | k + 1, l, hn, hb => by
    by_cases hm : (k : Int) ∈ l
    · have h1 := nodup_bound k (l.erase (k : Int)) (hn.erase _) (fun x hx => by
        have hx1 := List.mem_of_mem_erase hx
        have h2 := hb x hx1
        have h3 : x ≠ k := fun e => by rw [e] at hx; exact absurd hx (List.Nodup.not_mem_erase hn)
        omega)
      rw [List.length_erase_of_mem hm] at h1
      omega
    · have := nodup_bound k l hn (fun x hx => by
        have h2 := hb x hx
        have h3 : x ≠ k := fun e => hm (e ▸ hx)
        omega)
      omega

def Wt.isI (i : Int) (w : Wt) : Bool := w.irq == i
def Wt.prevOk (lw : List Wt) (w : Wt) : Nat → Bool
  | 0 => true
  | j + 1 => (lw.getD j default).lt w
def Wt.okAt (ls : List Sl) (lw : List Wt) (i : Nat) (w : Wt) : Bool := inB w.irq 0 7 && (inB w.prio 0 15 && (decide (Sl.ix ls w.irq < 0) && (!(lw.take i).any (Wt.isI w.irq) && Wt.prevOk lw w i)))
def Wt.upTo (ls : List Sl) (lw : List Wt) : Nat → Bool
  | 0 => true
  | k + 1 => Wt.upTo ls lw k && (match lw[k]? with | some w => Wt.okAt ls lw k w | none => true)
def Qu.parts (ls : List Sl) (lw : List Wt) : Bool := Sl.good ls && Wt.upTo ls lw lw.length
theorem Wt.upTo_succ {ls : List Sl} {lw : List Wt} {k : Nat} {w : Wt} (h : lw[k]? = some w) : Wt.upTo ls lw (k + 1) = (Wt.upTo ls lw k && Wt.okAt ls lw k w) := by simp [Wt.upTo, h]
theorem Wt.upTo_mono {ls : List Sl} {lw : List Wt} : ∀ {k m : Nat}, k ≤ m → Wt.upTo ls lw m = true → Wt.upTo ls lw k = true
  | k, 0, h, h2 => by obtain rfl : k = 0 := by omega
                      exact h2
  | k, m + 1, h, h2 => by
    rcases Nat.eq_or_lt_of_le h with rfl | h
    · exact h2
    · rw [Wt.upTo, Bool.and_eq_true] at h2
      exact Wt.upTo_mono (by omega) h2.1
theorem Wt.upTo_at {ls : List Sl} {lw : List Wt} {m k : Nat} {w : Wt} (h : Wt.upTo ls lw m = true) (hk : k < m) (hw : lw[k]? = some w) : Wt.okAt ls lw k w = true := by
  have := Wt.upTo_mono (show k + 1 ≤ m by omega) h
  rw [Wt.upTo_succ hw, Bool.and_eq_true] at this
  exact this.2
theorem Qu.parts_no {ls : List Sl} {lw : List Wt} {k : Nat} {w : Wt} (hk : k < lw.length) (h : lw[k]? = some w) (h2 : Wt.okAt ls lw k w = false) : Qu.parts ls lw = false := by
  cases hq : Wt.upTo ls lw lw.length
  · simp [Qu.parts, hq]
  · have := Wt.upTo_at hq hk h
    rw [h2] at this; cases this
theorem Qu.parts_get {ls : List Sl} {lw : List Wt} (h : Qu.parts ls lw = true) : Sl.good ls = true ∧ Wt.upTo ls lw lw.length = true := by simpa [Qu.parts] using h
theorem Wt.upTo_nodup {ls : List Sl} {lw : List Wt} (h : Wt.upTo ls lw lw.length = true) : (lw.map Wt.irq).Nodup := by
  unfold List.Nodup
  rw [List.pairwise_map, List.pairwise_iff_getElem]
  intro i j hi hj hij he
  have := Wt.upTo_at h hj (List.getElem?_eq_getElem hj)
  simp only [Wt.okAt, Bool.and_eq_true, Bool.not_eq_true'] at this
  have h2 := List.any_eq_false.1 this.2.2.2.1 lw[i] (List.mem_of_getElem? (by rw [List.getElem?_take, if_pos hij]; exact List.getElem?_eq_getElem hi))
  simp [Wt.isI, he] at h2
theorem Wt.upTo_len {ls : List Sl} {lw : List Wt} (h : Wt.upTo ls lw lw.length = true) : lw.length ≤ 8 := by
  have := nodup_bound 8 (lw.map Wt.irq) (Wt.upTo_nodup h) (fun x hx => by
    obtain ⟨w, hw, rfl⟩ := List.mem_map.1 hx
    obtain ⟨k, hk⟩ := List.getElem?_of_mem hw
    have h2 := Wt.upTo_at h (List.getElem?_eq_some_iff.1 hk).1 hk
    simp only [Wt.okAt, Bool.and_eq_true] at h2
    have := inB_true h2.1
    omega)
  simpa using this
theorem Qu.parts_len {ls : List Sl} {lw : List Wt} (h : Qu.parts ls lw = true) : lw.length ≤ 8 := Wt.upTo_len (Qu.parts_get h).2

theorem urg_pos (x y : Wt) : 0 < urg x y ↔ y.lt x = true := by
  unfold urg orI cmpI Wt.lt
  simp only [Bool.or_eq_true, Bool.and_eq_true, decide_eq_true_eq]
  repeat' split
  all_goals omega


end Go.Proofs.Ytaggjadgbmmjoaa
