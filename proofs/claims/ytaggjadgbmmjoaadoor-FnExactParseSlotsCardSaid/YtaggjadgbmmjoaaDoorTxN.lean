/- Numbers' texts in the reference. Condition: at most 1000000. -/
import Derived.Test.YtaggjadgbmmjoaaDoorTx
import Derived.BigQuiet
import Derived.Lib.Strings
namespace Go.Proofs.YtaggjadgbmmjoaaDoor
open Go.RowKit Go.ChangeShapes Go.WideShapes Go.Deep

theorem dig_ext : ∀ n ∈ List.range 10, (ByteArray.mk #[48, 49, 50, 51, 52, 53, 54, 55, 56, 57]).extract n (n + 1) = ByteArray.mk #[UInt8.ofNat (48 + n)] := by decide
theorem dig_ext' {n : Nat} (h : n < 10) : (ByteArray.mk #[48, 49, 50, 51, 52, 53, 54, 55, 56, 57]).extract n (n + 1) = ByteArray.mk #[UInt8.ofNat (48 + n)] := dig_ext n (by rw [List.mem_range]; exact h)

theorem dd_len (n : Nat) : (Lib.decDigits n).length ≤ n + 1 := by
  induction n using Nat.strongRecOn with
  | _ n ih =>
    rw [Lib.decDigits]
    split
    · simp
    · have := ih (n / 10) (by omega)
      simp only [List.length_append, List.length_cons, List.length_nil]
      omega
theorem mk_app (x y : List UInt8) : (ByteArray.mk x.toArray) ++ (ByteArray.mk y.toArray) = ByteArray.mk (x ++ y).toArray := by
  apply ByteArray.ext
  simp
theorem mk_size (x : List UInt8) : (ByteArray.mk x.toArray).size = x.length := rfl

theorem l1Num_nat (n : Nat) : ∀ (w : World), n ≤ 1000000 → Calls Tryd.prog 30 #[.int .i64 (n : Int)] w fun e w' => e = .returned (.string ⟨(Lib.decDigits n).toArray⟩) ∧ ∃ m, w' = w.drewN m := by
  induction n using Nat.strongRecOn with
  | _ n ih =>
    intro w hn
    have hn0 : decide ((n : Int) < 0) = false := decide_eq_false (by omega)
    by_cases h : n < 10
    · have e : Lib.decDigits n = [UInt8.ofNat (48 + n)] := by rw [Lib.decDigits, dif_pos h]
      have hx := dig_ext' h
      have h10 : decide ((n : Int) < 10) = true := decide_eq_true (by omega)
      have hw : IntKind.i64.wrap ((n : Int) + 1) = (n : Int) + 1 := IntWalk.i64_in _ (by omega)
      go_enter Tryd.func30, Tryd.ntmps30
      go_wp2_with fail
      go_ret
      exact ⟨by rw [e]; simp, 0, rfl⟩
    · have h10 : decide ((n : Int) < 10) = false := decide_eq_false (by omega)
      have e : Lib.decDigits n = Lib.decDigits (n / 10) ++ [UInt8.ofNat (48 + n % 10)] := by rw [Lib.decDigits, dif_neg h]
      have c1 := ih (n / 10) (by omega)
      go_enter Tryd.func30, Tryd.ntmps30
      have hq : (n : Int).tdiv 10 = ((n / 10 : Nat) : Int) := by rw [Int.tdiv_eq_ediv_of_nonneg (by omega)]; omega
      have hr : (n : Int).tmod 10 = ((n % 10 : Nat) : Int) := by rw [Int.tmod_eq_emod_of_nonneg (by omega)]; omega
      have hx := dig_ext' (show n % 10 < 10 by omega)
      have hm : n % 10 < 10 := by omega
      have hw : IntKind.i64.wrap (((n % 10 : Nat) : Int) + 1) = ((n % 10 : Nat) : Int) + 1 := IntWalk.i64_in _ (by omega)
      have hle : n / 10 ≤ 1000000 := by omega
      have hwq : IntKind.i64.wrap ((n / 10 : Nat) : Int) = ((n / 10 : Nat) : Int) := IntWalk.i64_in _ (by omega)
      have hwr : IntKind.i64.wrap ((n % 10 : Nat) : Int) = ((n % 10 : Nat) : Int) := IntWalk.i64_in _ (by omega)
      have hz := dd_len (n / 10)
      obtain ⟨S, hS⟩ : ∃ S : ByteArray, S = ⟨(Lib.decDigits (n / 10)).toArray⟩ := ⟨_, rfl⟩
      rw [← hS] at c1
      have hz2 : S.size + 1 ≤ 9223372036854775807 := by rw [hS, mk_size]; omega
      have E := Lib.hid e
      have HS := Lib.hid hS
      clear e ih hS hz
      generalize n / 10 = q at *
      generalize n % 10 = r at *
      have f1 : (0 : Int) ≤ (r : Int) := by omega
      have f2 : (r : Int) ≤ (r : Int) + 1 := by omega
      have f3 : (r : Int) + 1 ≤ 10 := by omega
      have f4 : r + 1 ≤ 10 := by omega
      have f5 : ((r : Int) + 1).toNat = r + 1 := by omega
      go_wp2_with fail
      go_quiet (exact Calls.quiet_of (c1 _ hle))
      go_wp2_with fail
      go_ret
      refine ⟨?_, _, rfl⟩
      rw [E.out, HS.out]
      simp [mk_app]
      trace_state

end Go.Proofs.YtaggjadgbmmjoaaDoor
