/- Reading a number, in the reference: it returns something, and the right number at the texts of 0 to 15. Condition: at most 1048576 bytes. -/
import Derived.Test.YtaggjadgbmmjoaaDoorTxN
import Derived.Test.YtaggjadgbmmjoaaDoorTxS
namespace Go.Proofs.YtaggjadgbmmjoaaDoor
open Go.RowKit Go.ChangeShapes Go.WideShapes Go.Deep

def Tx.val (l : List UInt8) : Nat := l.foldl (fun a c => 10 * a + (c.toNat - 48)) 0
def Tx.isDig (c : UInt8) : Bool := decide (48 ≤ c.toNat) && decide (c.toNat ≤ 57)
theorem Tx.val_succ {l : List UInt8} {k : Nat} {c : UInt8} (h : l[k]? = some c) : Tx.val (l.take (k + 1)) = 10 * Tx.val (l.take k) + (c.toNat - 48) := by
  simp [Tx.val, List.take_add_one, h]
theorem Tx.fold_lt : ∀ (l : List UInt8) (a : Nat), l.all Tx.isDig = true → l.foldl (fun a c => 10 * a + (c.toNat - 48)) a < (a + 1) * 10 ^ l.length
  | [], a, _ => by simp
  | c :: l, a, h => by
    simp only [List.all_cons, Bool.and_eq_true] at h
    have h2 := h.1
    simp only [Tx.isDig, Bool.and_eq_true, decide_eq_true_eq] at h2
    have h1 := Tx.fold_lt l (10 * a + (c.toNat - 48)) h.2
    have h3 : (10 * a + (c.toNat - 48) + 1) * 10 ^ l.length ≤ (a + 1) * 10 * 10 ^ l.length := Nat.mul_le_mul_right _ (by omega)
    rw [List.foldl_cons, List.length_cons, Nat.pow_succ, Nat.mul_comm (10 ^ l.length) 10, ← Nat.mul_assoc]
    omega
theorem Tx.val_lt {l : List UInt8} (h : l.all Tx.isDig = true) : Tx.val l < 10 ^ l.length := by
  have := Tx.fold_lt l 0 h
  simpa [Tx.val] using this
theorem Tx.dec_val_ : ∀ n ∈ List.range 16, Tx.val (Tx.dec (n : Int)) = n ∧ (Tx.dec (n : Int)).all Tx.isDig = true := by decide
theorem Tx.dec_val {n : Int} (h0 : 0 ≤ n) (h1 : n ≤ 15) : (Tx.val (Tx.dec n) : Int) = n ∧ (Tx.dec n).all Tx.isDig = true := by
  have := Tx.dec_val_ n.toNat (by rw [List.mem_range]; omega)
  rw [show ((n.toNat : Nat) : Int) = n by omega] at this
  exact ⟨by omega, this.2⟩

theorem l1Num_neg (n : Nat) (w : World) (h0 : 0 < n) (hn : n ≤ 1000000) : Calls Tryd.prog 30 #[.int .i64 (-(n : Int))] w fun e w' => ∃ S, e = .returned (.string S) ∧ ∃ m, w' = w.drewN m := by
  have c1 := l1Num_nat n w hn
  have hd : decide (-(n : Int) < 0) = true := decide_eq_true (by omega)
  have hw : IntKind.i64.wrap (- -(n : Int)) = (n : Int) := by rw [Int.neg_neg]; exact IntWalk.i64_in _ (by omega)
  have hw2 : IntKind.i64.wrap ((n : Int)) = (n : Int) := IntWalk.i64_in _ (by omega)
  have hz := dd_len n
  obtain ⟨S, hS⟩ : ∃ S : ByteArray, S = ⟨(Lib.decDigits n).toArray⟩ := ⟨_, rfl⟩
  rw [← hS] at c1
  have hz2 : 1 + S.size ≤ 9223372036854775807 := by rw [hS, mk_size]; omega
  clear hS hz
  go_enter Tryd.func30, Tryd.ntmps30
  go_wp2_with fail
  refine c1.mono ?_; rintro q_ w1 ⟨rfl, m, rfl⟩
  go_wp2_with fail
  go_ret
  exact ⟨_, rfl, m, rfl⟩

end Go.Proofs.YtaggjadgbmmjoaaDoor
