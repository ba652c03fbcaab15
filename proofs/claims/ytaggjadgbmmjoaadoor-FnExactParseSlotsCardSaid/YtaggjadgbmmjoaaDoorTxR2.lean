/- Reading a number, in the reference, the walk: it returns something, and the right number at the texts of 0 to 15. Condition: at most 1048576 bytes. -/
import Derived.Test.YtaggjadgbmmjoaaDoorTxR
namespace Go.Proofs.YtaggjadgbmmjoaaDoor
open Go.RowKit Go.ChangeShapes Go.WideShapes Go.Deep

theorem Tx.dig_get {l : List UInt8} (h : l.all Tx.isDig = true) {k : Nat} {c : UInt8} (hc : l[k]? = some c) : 48 ≤ c.toNat ∧ c.toNat ≤ 57 := by
  have := List.all_eq_true.1 h c (List.mem_of_getElem? hc)
  simpa [Tx.isDig] using this
theorem Tx.all_succ {l : List UInt8} {k : Nat} {c : UInt8} (h : (l.take k).all Tx.isDig = true) (hc : l[k]? = some c) (h1 : 48 ≤ c.toNat) (h2 : c.toNat ≤ 57) : (l.take (k + 1)).all Tx.isDig = true := by
  rw [List.take_add_one, hc, List.all_append, h]
  simp [Tx.isDig, h1, h2]
theorem l1Num_some (z : Int) (w : World) (h0 : -1000000 ≤ z) (h1 : z ≤ 1000000) : Calls Tryd.prog 30 #[.int .i64 z] w fun e w' => ∃ S, e = .returned (.string S) ∧ ∃ m, w' = w.drewN m := by
  by_cases h : 0 ≤ z
  · obtain ⟨n, rfl⟩ : ∃ n : Nat, z = n := ⟨z.toNat, by omega⟩
    exact (l1Num_nat n w (by omega)).mono fun e w' ⟨he, hm⟩ => ⟨_, he, hm⟩
  · obtain ⟨n, rfl⟩ : ∃ n : Nat, z = -(n : Int) := ⟨(-z).toNat, by omega⟩
    exact l1Num_neg n w (by omega) (by omega)
/-- what reading a text says: the right number at the texts of 0 to 15 -/
def Tx.Reads (s : ByteArray) (n : Int) (ok : Bool) : Prop := ∀ d : Int, 0 ≤ d → d ≤ 15 → s.data.toList = Tx.dec d → n = d ∧ ok = true
def Tx.RdE (s : ByteArray) (e : Ending) : Prop := ∃ (n : Int) (ok : Bool), e = .returned (.tuple #[.int .i64 n, .bool ok]) ∧ Tx.Reads s n ok
set_option maxHeartbeats 4000000 in
theorem l1Read_any (s : ByteArray) (w : World) (hs : s.size ≤ 1048576) :
    Calls Tryd.prog 21 #[.string s] w fun e w' => Tx.RdE s e ∧ ∃ m, w' = w.drewN m := by
  have hsz := Lib.size_eq s
  have HZ := Lib.hid hsz
  clear hsz
  by_cases hg : 1 < s.size
  · have hgd : decide ((1 : Int) < (s.size : Int)) = true := decide_eq_true (by omega)
    have hgd2 : decide (1 < s.size) = true := decide_eq_true hg
    have h00 : 0 < s.size := by omega
    have hx0 : s.data.toList[0]? = some (s[0]'h00) := by
      rw [List.getElem?_eq_getElem (by rw [← HZ.out]; exact h00)]; rfl
    have HX0 := Lib.hid hx0
    clear hx0
    generalize hc0 : s[0]'h00 = x0 at *
    by_cases h45 : x0 = 45
    · subst h45
      have HNo := Lib.hid (show ∀ d : Int, 0 ≤ d → d ≤ 15 → ¬ s.data.toList = Tx.dec d from by
        intro d h0 h1 hd
        have h2 := HX0.out
        rw [hd] at h2
        have := Tx.dig_get (Tx.dec_val h0 h1).2 h2
        simp at this)
      obtain ⟨T, hT⟩ : ∃ T, s.extract 1 s.size = T := ⟨_, rfl⟩
      have hTs : T.size = s.size - 1 := by
        rw [← hT, ByteArray.size_extract]; omega
      have hTl : T.size < s.size := by omega
      have h1s : (1 : Int) ≤ (s.size : Int) := by omega
      clear hTs
      go_enter Tryd.func21, Tryd.ntmps21
      have HTZ := Lib.hid (Lib.size_eq T)
      have c1 := l1In_any (T.size : Int) 1 6 w
      by_cases hr : 1 ≤ T.size ∧ T.size ≤ 6
      rotate_left
      · rw [show inB (T.size : Int) 1 6 = false from by rw [Bool.eq_false_iff]; intro hq; rw [inB_iff] at hq; omega] at c1
        have HF := Lib.hid (show Tx.Reads s 0 false from by
          intro d h0 h1 hd
          exact absurd hd (HNo.out d h0 h1))
        clear hr
        go_wp2_with fail
        refine c1.mono ?_; rintro q_ w_ ⟨rfl, rfl⟩
        go_wp2_with fail
        go_ret2
        exact ⟨⟨_, _, rfl, HF.out⟩, 0, rfl⟩
      obtain ⟨hr1, hr6⟩ := hr
      rw [show inB (T.size : Int) 1 6 = true from by rw [inB_iff]; omega] at c1
      go_wp2_with fail
      refine c1.mono ?_; rintro q_ w_ ⟨rfl, rfl⟩
      clear c1
      go_wp2_with fail
      go_loop [5, 6] (fun v5 v6 => ∃ k : Nat, k ≤ T.size ∧ v6 = .int .i64 k ∧ v5 = .int .i64 (Tx.val (T.data.toList.take k) : Int) ∧ (T.data.toList.take k).all Tx.isDig = true) (fun _ i => T.size - (intOf i).toNat)
      case atStart => exact ⟨0, Nat.zero_le _, rfl, rfl, rfl⟩
      case round =>
        obtain ⟨k, hk, rfl, rfl, ha⟩ := hrel
        have HA := Lib.hid ha
        clear ha
        have hv := Tx.val_lt HA.out
        have hp : 10 ^ (T.data.toList.take k).length ≤ 10 ^ 6 := Nat.pow_le_pow_right (by omega) (by rw [List.length_take, ← HTZ.out]; omega)
        by_cases hlt : k < T.size
        · have hp5 : 10 ^ (T.data.toList.take k).length ≤ 10 ^ 5 := Nat.pow_le_pow_right (by omega) (by rw [List.length_take, ← HTZ.out]; omega)
          have hx : T.data.toList[k]? = some (T[k]'hlt) := by
            rw [List.getElem?_eq_getElem (by rw [← HTZ.out]; exact hlt)]; rfl
          have HX := Lib.hid hx
          clear hx
          generalize hc : T[k]'hlt = x at *
          have HV := Lib.hid (Tx.val_succ HX.out)
          generalize Tx.val (T.data.toList.take k) = q at *
          have hq5 : q < 100000 := by omega
          clear hv hp hp5
          by_cases h1 : x.toNat < 48
          · have hd1 : decide ((x.toNat : Int) < 48) = true := decide_eq_true (by omega)
            have hd2 : decide (x.toNat < 48) = true := decide_eq_true h1
            have HF := Lib.hid (show Tx.Reads s 0 false from by
              intro d h0 h1 hd
              exact absurd hd (HNo.out d h0 h1))
            clear h1
            go_wp2_with fail
            go_ret2
            exact ⟨⟨_, _, rfl, HF.out⟩, 0, rfl⟩
          · have hd1 : decide ((x.toNat : Int) < 48) = false := decide_eq_false (by omega)
            have hd2 : decide (x.toNat < 48) = false := decide_eq_false h1
            by_cases h2 : 57 < x.toNat
            · have hd3 : decide ((57 : Int) < (x.toNat : Int)) = true := decide_eq_true (by omega)
              have hd4 : decide (57 < x.toNat) = true := decide_eq_true h2
              have HF := Lib.hid (show Tx.Reads s 0 false from by
                intro d h0 h1 hd
                exact absurd hd (HNo.out d h0 h1))
              clear h1 h2
              go_wp2_with fail
              go_ret2
              exact ⟨⟨_, _, rfl, HF.out⟩, 0, rfl⟩
            · have hd3 : decide ((57 : Int) < (x.toNat : Int)) = false := decide_eq_false (by omega)
              have hd4 : decide (57 < x.toNat) = false := decide_eq_false h2
              have HA2 := Lib.hid (Tx.all_succ HA.out HX.out (by omega) (by omega))
              have w1 : IntKind.i64.wrap (10 * (q : Int)) = 10 * (q : Int) := IntWalk.i64_in _ (by omega)
              obtain ⟨y, hy⟩ : ∃ y : Nat, x.toNat = 48 + y := ⟨x.toNat - 48, by omega⟩
              have w2 : IntKind.u8.wrap ((x.toNat : Int) - 48) = (y : Int) := by
                rw [hy, show (((48 + y : Nat) : Int) - 48) = (y : Int) by omega]
                have hy9 : y < 10 := by omega
                revert hy9
                exact fun h => (show ∀ y ∈ List.range 10, IntKind.u8.wrap (y : Int) = (y : Int) by decide) y (by rw [List.mem_range]; exact h)
              have w3 : IntKind.i64.wrap (10 * (q : Int) + (y : Int)) = 10 * (q : Int) + (y : Int) := IntWalk.i64_in _ (by omega)
              have w4 : IntKind.i64.wrap (y : Int) = (y : Int) := IntWalk.i64_in _ (by omega)
              have HQ := Lib.hid (show (Tx.val (T.data.toList.take (k + 1)) : Int) = 10 * (q : Int) + (y : Int) from by rw [HV.out]; omega)
              clear h1 h2 hy
              go_wp2_with fail
              go_round
              case rel => exact ⟨k + 1, by omega, by go_num, by rw [HQ.out], HA2.out⟩
              case measure => simp [intOf]; omega
        · have hkt : T.data.toList.take k = T.data.toList := List.take_of_length_le (by rw [← HTZ.out]; omega)
          rw [hkt] at hv hp ⊢
          clear hkt HA
          have HV := Lib.hid (rfl : Tx.val T.data.toList = Tx.val T.data.toList)
          generalize hq : Tx.val T.data.toList = q at *
          have HQ := Lib.hid hq
          have hq6 : q < 1000000 := by omega
          clear hv hp hq HV
          have hcm : decide ((T.size : Int) < (s.size : Int)) = true := decide_eq_true (by omega)
          have hcm2 : decide (T.size < s.size) = true := decide_eq_true (by omega)
          have hw : IntKind.i64.wrap (-(q : Int)) = -(q : Int) := IntWalk.i64_in _ (by omega)
          have c2 := l1Num_some (-(q : Int)) w (by omega) (by omega)
          go_wp2_with fail
          refine c2.mono ?_; rintro q_ w1 ⟨S, rfl, m, rfl⟩
          clear c2
          cases hb : (S.toList == s.toList)
          · go_wp2_with fail
            go_ret2
            exact ⟨⟨_, _, rfl, fun d h0 h1 hd => absurd hd (HNo.out d h0 h1)⟩, m, rfl⟩
          · go_wp2_with fail
            go_ret2
            exact ⟨⟨_, _, rfl, fun d h0 h1 hd => absurd hd (HNo.out d h0 h1)⟩, m, rfl⟩
    · have hne : ((x0.toNat : Int) == 45) = false := by
        rw [beq_eq_false_iff_ne]; intro hq
        exact h45 (UInt8.toNat_inj.1 (by show x0.toNat = 45; omega))
      clear h45 HX0
      go_enter Tryd.func21, Tryd.ntmps21
      have HTZ := Lib.hid (Lib.size_eq s)
      have c1 := l1In_any (s.size : Int) 1 6 w
      by_cases hr : 1 ≤ s.size ∧ s.size ≤ 6
      rotate_left
      · rw [show inB (s.size : Int) 1 6 = false from by rw [Bool.eq_false_iff]; intro hq; rw [inB_iff] at hq; omega] at c1
        have HF := Lib.hid (show Tx.Reads s 0 false from by
          intro d h0 h1 hd
          exfalso
          have h2 := HZ.out
          rw [hd] at h2
          have := Tx.dec_len (n := d)
          omega)
        clear hr
        go_wp2_with fail
        refine c1.mono ?_; rintro q_ w_ ⟨rfl, rfl⟩
        go_wp2_with fail
        go_ret2
        exact ⟨⟨_, _, rfl, HF.out⟩, 0, rfl⟩
      obtain ⟨hr1, hr6⟩ := hr
      rw [show inB (s.size : Int) 1 6 = true from by rw [inB_iff]; omega] at c1
      go_wp2_with fail
      refine c1.mono ?_; rintro q_ w_ ⟨rfl, rfl⟩
      clear c1
      go_wp2_with fail
      go_loop [5, 6] (fun v5 v6 => ∃ k : Nat, k ≤ s.size ∧ v6 = .int .i64 k ∧ v5 = .int .i64 (Tx.val (s.data.toList.take k) : Int) ∧ (s.data.toList.take k).all Tx.isDig = true) (fun _ i => s.size - (intOf i).toNat)
      case atStart => exact ⟨0, Nat.zero_le _, rfl, rfl, rfl⟩
      case round =>
        obtain ⟨k, hk, rfl, rfl, ha⟩ := hrel
        have HA := Lib.hid ha
        clear ha
        have hv := Tx.val_lt HA.out
        have hp : 10 ^ (s.data.toList.take k).length ≤ 10 ^ 6 := Nat.pow_le_pow_right (by omega) (by rw [List.length_take, ← HTZ.out]; omega)
        by_cases hlt : k < s.size
        · have hp5 : 10 ^ (s.data.toList.take k).length ≤ 10 ^ 5 := Nat.pow_le_pow_right (by omega) (by rw [List.length_take, ← HTZ.out]; omega)
          have hx : s.data.toList[k]? = some (s[k]'hlt) := by
            rw [List.getElem?_eq_getElem (by rw [← HTZ.out]; exact hlt)]; rfl
          have HX := Lib.hid hx
          clear hx
          generalize hc : s[k]'hlt = x at *
          have HV := Lib.hid (Tx.val_succ HX.out)
          generalize Tx.val (s.data.toList.take k) = q at *
          have hq5 : q < 100000 := by omega
          clear hv hp hp5
          by_cases h1 : x.toNat < 48
          · have hd1 : decide ((x.toNat : Int) < 48) = true := decide_eq_true (by omega)
            have hd2 : decide (x.toNat < 48) = true := decide_eq_true h1
            have HF := Lib.hid (show Tx.Reads s 0 false from by
              intro d h0 h1 hd
              exfalso
              have h2 := HX.out
              rw [hd] at h2
              have := Tx.dig_get (Tx.dec_val h0 h1).2 h2
              omega)
            clear h1
            go_wp2_with fail
            go_ret2
            exact ⟨⟨_, _, rfl, HF.out⟩, 0, rfl⟩
          · have hd1 : decide ((x.toNat : Int) < 48) = false := decide_eq_false (by omega)
            have hd2 : decide (x.toNat < 48) = false := decide_eq_false h1
            by_cases h2 : 57 < x.toNat
            · have hd3 : decide ((57 : Int) < (x.toNat : Int)) = true := decide_eq_true (by omega)
              have hd4 : decide (57 < x.toNat) = true := decide_eq_true h2
              have HF := Lib.hid (show Tx.Reads s 0 false from by
                intro d h0 h1 hd
                exfalso
                have h2 := HX.out
                rw [hd] at h2
                have := Tx.dig_get (Tx.dec_val h0 h1).2 h2
                omega)
              clear h1 h2
              go_wp2_with fail
              go_ret2
              exact ⟨⟨_, _, rfl, HF.out⟩, 0, rfl⟩
            · have hd3 : decide ((57 : Int) < (x.toNat : Int)) = false := decide_eq_false (by omega)
              have hd4 : decide (57 < x.toNat) = false := decide_eq_false h2
              have HA2 := Lib.hid (Tx.all_succ HA.out HX.out (by omega) (by omega))
              have w1 : IntKind.i64.wrap (10 * (q : Int)) = 10 * (q : Int) := IntWalk.i64_in _ (by omega)
              obtain ⟨y, hy⟩ : ∃ y : Nat, x.toNat = 48 + y := ⟨x.toNat - 48, by omega⟩
              have w2 : IntKind.u8.wrap ((x.toNat : Int) - 48) = (y : Int) := by
                rw [hy, show (((48 + y : Nat) : Int) - 48) = (y : Int) by omega]
                have hy9 : y < 10 := by omega
                revert hy9
                exact fun h => (show ∀ y ∈ List.range 10, IntKind.u8.wrap (y : Int) = (y : Int) by decide) y (by rw [List.mem_range]; exact h)
              have w3 : IntKind.i64.wrap (10 * (q : Int) + (y : Int)) = 10 * (q : Int) + (y : Int) := IntWalk.i64_in _ (by omega)
              have w4 : IntKind.i64.wrap (y : Int) = (y : Int) := IntWalk.i64_in _ (by omega)
              have HQ := Lib.hid (show (Tx.val (s.data.toList.take (k + 1)) : Int) = 10 * (q : Int) + (y : Int) from by rw [HV.out]; omega)
              clear h1 h2 hy
              go_wp2_with fail
              go_round
              case rel => exact ⟨k + 1, by omega, by go_num, by rw [HQ.out], HA2.out⟩
              case measure => simp [intOf]; omega
        · have hkt : s.data.toList.take k = s.data.toList := List.take_of_length_le (by rw [← HTZ.out]; omega)
          rw [hkt] at hv hp ⊢
          clear hkt HA
          have HV := Lib.hid (rfl : Tx.val s.data.toList = Tx.val s.data.toList)
          generalize hq : Tx.val s.data.toList = q at *
          have HQ := Lib.hid hq
          have hq6 : q < 1000000 := by omega
          clear hv hp hq HV
          have c2 := l1Num_nat q w (by omega)
          obtain ⟨S, hS⟩ : ∃ S : ByteArray, S = ⟨(Lib.decDigits q).toArray⟩ := ⟨_, rfl⟩
          rw [← hS] at c2
          have HS := Lib.hid hS
          clear hS
          go_wp2_with fail
          refine c2.mono ?_; rintro q_ w1 ⟨rfl, m, rfl⟩
          clear c2
          cases hb : (S.toList == s.toList)
          · have HF := Lib.hid (show Tx.Reads s 0 false from by
              intro d h0 h1 hd
              exfalso
              have h2 := (Tx.dec_val h0 h1).1
              rw [← hd, HQ.out] at h2
              have h3 : S = s := by
                rw [HS.out, show q = d.toNat by omega, Tx.dec_eq h0 (by omega), ← hd]
              rw [h3] at hb
              simp at hb)
            go_wp2_with fail
            go_ret2
            exact ⟨⟨_, _, rfl, HF.out⟩, m, rfl⟩
          · have HF := Lib.hid (show Tx.Reads s (q : Int) true from by
              intro d h0 h1 hd
              have h2 := (Tx.dec_val h0 h1).1
              rw [← hd, HQ.out] at h2
              exact ⟨h2, rfl⟩)
            go_wp2_with fail
            go_ret2
            exact ⟨⟨_, _, rfl, HF.out⟩, m, rfl⟩
  · have hgd : decide ((1 : Int) < (s.size : Int)) = false := decide_eq_false (by omega)
    have hgd2 : decide (1 < s.size) = false := decide_eq_false hg
    clear hg
    go_enter Tryd.func21, Tryd.ntmps21
    have HTZ := Lib.hid (Lib.size_eq s)
    have c1 := l1In_any (s.size : Int) 1 6 w
    by_cases hr : 1 ≤ s.size ∧ s.size ≤ 6
    rotate_left
    · rw [show inB (s.size : Int) 1 6 = false from by rw [Bool.eq_false_iff]; intro hq; rw [inB_iff] at hq; omega] at c1
      have HF := Lib.hid (show Tx.Reads s 0 false from by
        intro d h0 h1 hd
        exfalso
        have h2 := HZ.out
        rw [hd] at h2
        have := Tx.dec_len (n := d)
        omega)
      clear hr
      go_wp2_with fail
      refine c1.mono ?_; rintro q_ w_ ⟨rfl, rfl⟩
      go_wp2_with fail
      go_ret2
      exact ⟨⟨_, _, rfl, HF.out⟩, 0, rfl⟩
    obtain ⟨hr1, hr6⟩ := hr
    rw [show inB (s.size : Int) 1 6 = true from by rw [inB_iff]; omega] at c1
    go_wp2_with fail
    refine c1.mono ?_; rintro q_ w_ ⟨rfl, rfl⟩
    clear c1
    go_wp2_with fail
    go_loop [5, 6] (fun v5 v6 => ∃ k : Nat, k ≤ s.size ∧ v6 = .int .i64 k ∧ v5 = .int .i64 (Tx.val (s.data.toList.take k) : Int) ∧ (s.data.toList.take k).all Tx.isDig = true) (fun _ i => s.size - (intOf i).toNat)
    case atStart => exact ⟨0, Nat.zero_le _, rfl, rfl, rfl⟩
    case round =>
      obtain ⟨k, hk, rfl, rfl, ha⟩ := hrel
      have HA := Lib.hid ha
      clear ha
      have hv := Tx.val_lt HA.out
      have hp : 10 ^ (s.data.toList.take k).length ≤ 10 ^ 6 := Nat.pow_le_pow_right (by omega) (by rw [List.length_take, ← HTZ.out]; omega)
      by_cases hlt : k < s.size
      · have hp5 : 10 ^ (s.data.toList.take k).length ≤ 10 ^ 5 := Nat.pow_le_pow_right (by omega) (by rw [List.length_take, ← HTZ.out]; omega)
        have hx : s.data.toList[k]? = some (s[k]'hlt) := by
          rw [List.getElem?_eq_getElem (by rw [← HTZ.out]; exact hlt)]; rfl
        have HX := Lib.hid hx
        clear hx
        generalize hc : s[k]'hlt = x at *
        have HV := Lib.hid (Tx.val_succ HX.out)
        generalize Tx.val (s.data.toList.take k) = q at *
        have hq5 : q < 100000 := by omega
        clear hv hp hp5
        by_cases h1 : x.toNat < 48
        · have hd1 : decide ((x.toNat : Int) < 48) = true := decide_eq_true (by omega)
          have hd2 : decide (x.toNat < 48) = true := decide_eq_true h1
          have HF := Lib.hid (show Tx.Reads s 0 false from by
            intro d h0 h1 hd
            exfalso
            have h2 := HX.out
            rw [hd] at h2
            have := Tx.dig_get (Tx.dec_val h0 h1).2 h2
            omega)
          clear h1
          go_wp2_with fail
          go_ret2
          exact ⟨⟨_, _, rfl, HF.out⟩, 0, rfl⟩
        · have hd1 : decide ((x.toNat : Int) < 48) = false := decide_eq_false (by omega)
          have hd2 : decide (x.toNat < 48) = false := decide_eq_false h1
          by_cases h2 : 57 < x.toNat
          · have hd3 : decide ((57 : Int) < (x.toNat : Int)) = true := decide_eq_true (by omega)
            have hd4 : decide (57 < x.toNat) = true := decide_eq_true h2
            have HF := Lib.hid (show Tx.Reads s 0 false from by
              intro d h0 h1 hd
              exfalso
              have h2 := HX.out
              rw [hd] at h2
              have := Tx.dig_get (Tx.dec_val h0 h1).2 h2
              omega)
            clear h1 h2
            go_wp2_with fail
            go_ret2
            exact ⟨⟨_, _, rfl, HF.out⟩, 0, rfl⟩
          · have hd3 : decide ((57 : Int) < (x.toNat : Int)) = false := decide_eq_false (by omega)
            have hd4 : decide (57 < x.toNat) = false := decide_eq_false h2
            have HA2 := Lib.hid (Tx.all_succ HA.out HX.out (by omega) (by omega))
            have w1 : IntKind.i64.wrap (10 * (q : Int)) = 10 * (q : Int) := IntWalk.i64_in _ (by omega)
            obtain ⟨y, hy⟩ : ∃ y : Nat, x.toNat = 48 + y := ⟨x.toNat - 48, by omega⟩
            have w2 : IntKind.u8.wrap ((x.toNat : Int) - 48) = (y : Int) := by
              rw [hy, show (((48 + y : Nat) : Int) - 48) = (y : Int) by omega]
              have hy9 : y < 10 := by omega
              revert hy9
              exact fun h => (show ∀ y ∈ List.range 10, IntKind.u8.wrap (y : Int) = (y : Int) by decide) y (by rw [List.mem_range]; exact h)
            have w3 : IntKind.i64.wrap (10 * (q : Int) + (y : Int)) = 10 * (q : Int) + (y : Int) := IntWalk.i64_in _ (by omega)
            have w4 : IntKind.i64.wrap (y : Int) = (y : Int) := IntWalk.i64_in _ (by omega)
            have HQ := Lib.hid (show (Tx.val (s.data.toList.take (k + 1)) : Int) = 10 * (q : Int) + (y : Int) from by rw [HV.out]; omega)
            clear h1 h2 hy
            go_wp2_with fail
            go_round
            case rel => exact ⟨k + 1, by omega, by go_num, by rw [HQ.out], HA2.out⟩
            case measure => simp [intOf]; omega
      · have hkt : s.data.toList.take k = s.data.toList := List.take_of_length_le (by rw [← HTZ.out]; omega)
        rw [hkt] at hv hp ⊢
        clear hkt HA
        have HV := Lib.hid (rfl : Tx.val s.data.toList = Tx.val s.data.toList)
        generalize hq : Tx.val s.data.toList = q at *
        have HQ := Lib.hid hq
        have hq6 : q < 1000000 := by omega
        clear hv hp hq HV
        have c2 := l1Num_nat q w (by omega)
        obtain ⟨S, hS⟩ : ∃ S : ByteArray, S = ⟨(Lib.decDigits q).toArray⟩ := ⟨_, rfl⟩
        rw [← hS] at c2
        have HS := Lib.hid hS
        clear hS
        go_wp2_with fail
        refine c2.mono ?_; rintro q_ w1 ⟨rfl, m, rfl⟩
        clear c2
        cases hb : (S.toList == s.toList)
        · have HF := Lib.hid (show Tx.Reads s 0 false from by
            intro d h0 h1 hd
            exfalso
            have h2 := (Tx.dec_val h0 h1).1
            rw [← hd, HQ.out] at h2
            have h3 : S = s := by
              rw [HS.out, show q = d.toNat by omega, Tx.dec_eq h0 (by omega), ← hd]
            rw [h3] at hb
            simp at hb)
          go_wp2_with fail
          go_ret2
          exact ⟨⟨_, _, rfl, HF.out⟩, m, rfl⟩
        · have HF := Lib.hid (show Tx.Reads s (q : Int) true from by
            intro d h0 h1 hd
            have h2 := (Tx.dec_val h0 h1).1
            rw [← hd, HQ.out] at h2
            exact ⟨h2, rfl⟩)
          go_wp2_with fail
          go_ret2
          exact ⟨⟨_, _, rfl, HF.out⟩, m, rfl⟩

end Go.Proofs.YtaggjadgbmmjoaaDoor
