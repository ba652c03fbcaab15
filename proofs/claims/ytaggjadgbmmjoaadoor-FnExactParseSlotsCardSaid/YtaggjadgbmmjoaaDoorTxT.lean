/- The text of slots in the reference. Condition: the slots are valid. -/
import Derived.Test.YtaggjadgbmmjoaaDoorTxN
import Derived.Test.YtaggjadgbmmjoaaDoorSlGood
namespace Go.Proofs.YtaggjadgbmmjoaaDoor
open Go.RowKit Go.ChangeShapes Go.WideShapes Go.Deep

theorem lett_ext : ∀ n ∈ List.range 4, (ByteArray.mk #[45, 112, 97, 98]).extract n (n + 1) = ByteArray.mk #[Tx.lett (n : Int)] := by decide
theorem lett_ext' {n : Nat} (h : n < 4) : (ByteArray.mk #[45, 112, 97, 98]).extract n (n + 1) = ByteArray.mk #[Tx.lett (n : Int)] := lett_ext n (by rw [List.mem_range]; exact h)
theorem Tx.word_len {s : Sl} (h : Tx.fine s) : (Tx.word s).length ≤ 6 := by
  by_cases h0 : s.state = 0
  · rw [(Tx.word_zero h h0).1]; simp
  · rw [(Tx.word_used h h0).1]
    have := Tx.dec_len (n := s.prio)
    simp; omega
theorem Tx.tail_len : ∀ {l : List Sl}, (∀ s ∈ l, Tx.fine s) → (Tx.tail l).length ≤ 7 * l.length
  | [], _ => by simp [Tx.tail]
  | s :: l, h => by
    have h1 := Tx.word_len (h s (by simp))
    have h2 := Tx.tail_len (l := l) (fun x hx => h x (by simp [hx]))
    rw [Tx.tail, List.flatMap_cons]
    rw [Tx.tail] at h2
    simp only [List.length_append, List.length_cons]
    omega
theorem Tx.text_len {l : List Sl} (h : ∀ s ∈ l, Tx.fine s) : (Tx.text l).length ≤ 7 * l.length := by
  have := Tx.tail_len h
  rw [Tx.text, List.length_drop]; omega
theorem Tx.fine_nat {s : Sl} (h : Tx.fine s) : ∃ j i p : Nat, s.state = j ∧ s.irq = i ∧ s.prio = p ∧ j < 4 ∧ i < 8 ∧ p < 16 := by
  refine ⟨s.state.toNat, s.irq.toNat, s.prio.toNat, ?_⟩
  rcases h with h | h <;> omega

set_option maxHeartbeats 1000000 in
theorem l8Text_any (v : Value) (l : List Sl) (w : World) {lo hi : Nat} (h : Rd Sl.cells 3 w lo hi v l) (hh : hi ≤ w.heap.size) (hg : Sl.good l = true) :
    Calls Tryd.prog 15 #[v] w fun e w' => e = .returned (.string ⟨(Tx.text l).toArray⟩) ∧ ∃ m, w' = w.drewN m := by
  have hrd := h
  obtain ⟨A, n, c, rfl, H, hc, hm⟩ := h.form
  have hn4 : n = 4 := by rw [H.out]; exact Sl.good_len hg
  have hn5 : n ≤ 4 := by omega
  have HG := Lib.hid hg
  clear hg hn4
  go_enter Tryd.func15, Tryd.ntmps15
  go_wp2_with fail
  go_loopw [3, 4] (fun v3 v4 wr => ∃ (k m : Nat) (S : ByteArray), k ≤ n ∧ v4 = .int .i64 k ∧ v3 = .string S ∧ Hid (S = ⟨(Tx.text (l.take k)).toArray⟩) ∧ wr = w.drewN m) (fun _ i _ => n - (intOf i).toNat)
  case atStart => exact ⟨0, 0, _, Nat.zero_le _, rfl, rfl, Lib.hid (by simp [Tx.text, Tx.tail]), rfl⟩
  case round =>
    obtain ⟨k, m, S, hk, rfl, rfl, HS, rfl⟩ := hrel
    by_cases hlt : k < n
    · obtain ⟨b, off, s, rfl, hs, _, hbl, f0, f1, f2⟩ := Sl.get hrd hlt (below_drewN (Below.refl w.heap.size w) m) hh
      generalize hwq : w.drewN m = wq at *
      have HW := Lib.hid hwq
      clear hwq
      have hf := Tx.good_fine HG.out hs.out
      obtain ⟨j, i, p, e0, e1, e2, hj, hi8, hp⟩ := Tx.fine_nat hf
      have hSz : S.size ≤ 30 := by
        rw [HS.out, mk_size]
        have := Tx.text_len (l := l.take k) (fun x hx => Tx.good_fine' HG.out (List.mem_of_mem_take hx))
        rw [List.length_take] at this
        omega
      rw [e0] at f0
      rw [e1] at f1
      rw [e2] at f2
      have HX := Lib.hid (show Tx.text (l.take (k + 1)) = (if k = 0 then [] else Tx.text (l.take k) ++ [32]) ++ Tx.word s from by
        by_cases h0 : k = 0
        · subst h0; rw [if_pos rfl, Tx.text_first hs.out]; rfl
        · rw [if_neg h0, Tx.text_succ (by omega) hs.out]; simp)
      have hx := lett_ext' hj
      have g1 : (0 : Int) ≤ (j : Int) := by omega
      have g2 : (j : Int) ≤ (j : Int) + 1 := by omega
      have g3 : (j : Int) + 1 ≤ 4 := by omega
      have g4 : j + 1 ≤ 4 := by omega
      have g5 : ((j : Int) + 1).toNat = j + 1 := by omega
      have gw : IntKind.i64.wrap ((j : Int) + 1) = (j : Int) + 1 := IntWalk.i64_in _ (by omega)
      have z1 : S.size + 1 ≤ 9223372036854775807 := by omega
      obtain ⟨S1, K, hS1, hK, hy1⟩ : ∃ (S1 : ByteArray) (K : Bool), S1 = (if k = 0 then S else S ++ ByteArray.mk #[32]) ∧ K = decide ((0 : Int) < (k : Int)) ∧ S1.size ≤ 31 := by
        refine ⟨_, _, rfl, rfl, ?_⟩
        split
        · omega
        · rw [ByteArray.size_append]; show S.size + 1 ≤ 31; omega
      obtain ⟨S2, hS2⟩ : ∃ S2, S1 ++ ByteArray.mk #[Tx.lett (j : Int)] = S2 := ⟨_, rfl⟩
      have hy2 : S2.size ≤ 32 := by rw [← hS2, ByteArray.size_append]; show S1.size + 1 ≤ 32; omega
      have z2 : S1.size + 1 ≤ 9223372036854775807 := by omega
      obtain ⟨D1, hD1⟩ : ∃ D1 : ByteArray, D1 = ⟨(Lib.decDigits i).toArray⟩ := ⟨_, rfl⟩
      obtain ⟨D2, hD2⟩ : ∃ D2 : ByteArray, D2 = ⟨(Lib.decDigits p).toArray⟩ := ⟨_, rfl⟩
      have d1 : D1.size ≤ 20 := by have := dd_len i; rw [hD1, mk_size]; omega
      have d2 : D2.size ≤ 20 := by have := dd_len p; rw [hD2, mk_size]; omega
      obtain ⟨S3, hS3⟩ : ∃ S3, S2 ++ D1 = S3 := ⟨_, rfl⟩
      obtain ⟨S4, hS4⟩ : ∃ S4, S3 ++ ByteArray.mk #[58] = S4 := ⟨_, rfl⟩
      obtain ⟨S5, hS5⟩ : ∃ S5, S4 ++ D2 = S5 := ⟨_, rfl⟩
      have hy3 : S3.size ≤ 52 := by rw [← hS3, ByteArray.size_append]; omega
      have hy4 : S4.size ≤ 53 := by rw [← hS4, ByteArray.size_append]; show S3.size + 1 ≤ 53; omega
      have z3 : S2.size + D1.size ≤ 9223372036854775807 := by omega
      have z4 : S3.size + 1 ≤ 9223372036854775807 := by omega
      have z5 : S4.size + D2.size ≤ 9223372036854775807 := by omega
      have cn : ∀ (q : Nat) (D : ByteArray), q ≤ 1000000 → Hid (D = ⟨(Lib.decDigits q).toArray⟩) → ∀ x, Calls Tryd.prog 30 #[.int .i64 (q : Int)] (wq.drewN x) fun e w' => e = .returned (.string D) ∧ ∃ m, w' = (wq.drewN x).drewN m := fun q D hq hD x => by
        rw [hD.out]; exact l1Num_nat q (wq.drewN x) hq
      have hq1 : i ≤ 1000000 := by omega
      have hq2 : p ≤ 1000000 := by omega
      have HD1 := Lib.hid hD1
      have HD2 := Lib.hid hD2
      have HY : Hid ((j = 0 → S2 = ⟨(Tx.text (l.take (k + 1))).toArray⟩) ∧ (¬ j = 0 → S5 = ⟨(Tx.text (l.take (k + 1))).toArray⟩)) := Lib.hid (by
        have hq1 : S1 = ⟨(if k = 0 then [] else Tx.text (l.take k) ++ [32]).toArray⟩ := by
          rw [hS1]
          by_cases h0 : k = 0
          · rw [if_pos h0, if_pos h0, HS.out, h0]; simp [Tx.text, Tx.tail]
          · rw [if_neg h0, if_neg h0, HS.out]
            exact mk_app _ [32]
        have hq2 : S2 = ⟨((if k = 0 then [] else Tx.text (l.take k) ++ [32]) ++ [Tx.lett (j : Int)]).toArray⟩ := by
          rw [← hS2, hq1]
          exact mk_app _ [Tx.lett (j : Int)]
        rw [HX.out]
        constructor
        · intro hj0
          rw [hq2, (Tx.word_zero hf (by omega)).1, hj0]
          rfl
        · intro hj0
          rw [← hS5, ← hS4, ← hS3, hq2, hD1, hD2, mk_app, show (ByteArray.mk #[58]) = ByteArray.mk [58].toArray from rfl, mk_app, mk_app, Tx.word, if_neg (show ¬ s.state = 0 by omega), e0, e1, e2, ← Tx.dec_eq (n := (i : Int)) (by omega) (by omega), ← Tx.dec_eq (n := (p : Int)) (by omega) (by omega)]
          simp)
      clear HX hf hi8 hp
      by_cases hj0 : j = 0
      · have hjd : decide ((0 : Int) < (j : Int)) = false := decide_eq_false (by omega)
        have hjd2 : decide (0 < j) = false := decide_eq_false (by omega)
        have HE := Lib.hid (HY.out.1 hj0)
        clear HY hj0 cn HD1 HD2 hD1 hD2
        by_cases h0 : k = 0
        · rw [if_pos h0] at hS1
          rw [decide_eq_false (by omega)] at hK
          subst hS1
          have hkd : decide ((0 : Int) < (k : Int)) = false := decide_eq_false (by omega)
          have hkd2 : decide (0 < k) = false := decide_eq_false (by omega)
          clear h0
          go_wp2_with fail
          go_roundw
          case rel => exact ⟨k + 1, m, _, by omega, by go_num, rfl, HE, HW.out.symm⟩
          case measure => simp [intOf]; omega
        · rw [if_neg h0] at hS1
          have hkd : decide ((0 : Int) < (k : Int)) = true := decide_eq_true (by omega)
          have hkd2 : decide (0 < k) = true := decide_eq_true (by omega)
          replace hS1 := hS1.symm
          go_wp2_with fail
          go_roundw
          case rel => exact ⟨k + 1, m, _, by omega, by go_num, rfl, HE, HW.out.symm⟩
          case measure => simp [intOf]; omega
      · have hjd : decide ((0 : Int) < (j : Int)) = true := decide_eq_true (by omega)
        have hjd2 : decide (0 < j) = true := decide_eq_true (by omega)
        have HE := Lib.hid (HY.out.2 hj0)
        clear HY hj0 hD1 hD2
        by_cases h0 : k = 0
        · rw [if_pos h0] at hS1
          rw [decide_eq_false (by omega)] at hK
          subst hS1
          have hkd : decide ((0 : Int) < (k : Int)) = false := decide_eq_false (by omega)
          have hkd2 : decide (0 < k) = false := decide_eq_false (by omega)
          clear h0
          go_wp2_with fail
          go_quiet (exact Calls.quiet_of (cn _ _ (by assumption) (by assumption) _))
          go_wp2_with fail
          go_roundw
          case rel => exact ⟨k + 1, _, _, by omega, by go_num, rfl, HE, by rw [← HW.out, World.drewN_drewN]⟩
          case measure => simp [intOf]; omega
        · rw [if_neg h0] at hS1
          have hkd : decide ((0 : Int) < (k : Int)) = true := decide_eq_true (by omega)
          have hkd2 : decide (0 < k) = true := decide_eq_true (by omega)
          replace hS1 := hS1.symm
          go_wp2_with fail
          go_quiet (exact Calls.quiet_of (cn _ _ (by assumption) (by assumption) _))
          go_wp2_with fail
          go_roundw
          case rel => exact ⟨k + 1, _, _, by omega, by go_num, rfl, HE, by rw [← HW.out, World.drewN_drewN]⟩
          case measure => simp [intOf]; omega
    · go_wp2_with fail
      go_ret
      refine ⟨?_, _, rfl⟩
      rw [HS.out, List.take_of_length_le (by rw [← H.out]; omega)]
      rfl

end Go.Proofs.YtaggjadgbmmjoaaDoor
