/- Reading a number, in the program: it returns something, and the right number at the texts of 0 to 15. Conditions: the library's variables read as they are laid. -/
import Derived.Test.YtaggjadgbmmjoaaDoorTxE
import Derived.Shelf.Strconv.Atoi
import Derived.Lib.AtoiErrMem
import Derived.Lib.AppendIntMem
namespace Go.Proofs.YtaggjadgbmmjoaaDoor
open Go.RowKit Go.ChangeShapes Go.WideShapes Go.Deep

theorem Tx.bytes_eq {a b : ByteArray} (h : a.data.toList = b.data.toList) : a = b := by rw [← Lib.mk_data a, h, Lib.mk_data b]
theorem atoi_some (s : ByteArray) (n : Int) (hl : s.size ≤ 18) (h : Lib.atoi s.data.toList = some n) (w : World) : Calls Tryd.prog 40 #[.string s] w fun e w' => e = .returned (.tuple #[.int .i64 n, .nilIface]) ∧ Below w.heap.size w w' :=
  (Any.strconv_Atoi { laysAtoi with } s n hl h w).mono fun e w' ⟨he, t, hw⟩ => ⟨he, by rw [hw]; exact Lib.bytesWorld_below w _ t⟩
theorem atoi_none (s : ByteArray) (hl : s.size ≤ 18) (h : Lib.atoi s.data.toList = none) (w : World) (hE : Tx.Env w) : Calls Tryd.prog 40 #[.string s] w fun e w' => ∃ T N, e = .returned (.tuple #[.int .i64 0, .iface T (.pointer (some ⟨N, 0, none⟩))]) ∧ Below w.heap.size w w' := by
  obtain ⟨⟨tp, p, h1⟩, _⟩ := hE
  exact (Any.strconv_Atoi_err_var laysAtoi s hl h tp p w h1).mono fun e w' ⟨N, he, _, _, hb⟩ => ⟨_, N, he, hb⟩
theorem itoa_any (n : Int) (w : World) (hE : Tx.Env w) (h0 : -1000000 ≤ n) (h1 : n ≤ 1000000) : Calls Tryd.prog 35 #[.int .i64 n] w fun e w' => e = .returned (.string ⟨(Lib.itoa n).toArray⟩) ∧ Below w.heap.size w w' :=
  (Any.strconv_Itoa laysItoa n (by omega) (by omega) w hE.2.1).mono fun e w' ⟨he, k, os, hw⟩ => ⟨he, by rw [hw]; exact Lib.below_grow _ w (Nat.le_refl _) k os⟩

set_option maxHeartbeats 2000000 in
theorem ParseInt_any (s : ByteArray) (w : World) (hs : s.size ≤ 1048576) (hE : Tx.Env w) :
    Calls Tryd.prog 25 #[.string s] w fun e w' => Tx.RdE s e ∧ Below w.heap.size w w' := by
  have HZ := Lib.hid (Lib.size_eq s)
  by_cases h7 : 7 < s.size
  · have hd1 : decide ((7 : Int) < (s.size : Int)) = true := decide_eq_true (by omega)
    have hd2 : decide (7 < s.size) = true := decide_eq_true h7
    have HF := Lib.hid (show Tx.Reads s 0 false from by
      intro d h0 h1 hd
      exfalso
      have h2 := HZ.out
      rw [hd] at h2
      have := Tx.dec_len (n := d)
      omega)
    clear h7
    go_enter Tryd.func25, Tryd.ntmps25
    go_wp2_with fail
    go_ret2
    exact ⟨⟨_, _, rfl, HF.out⟩, Below.refl _ _⟩
  have hd1 : decide ((7 : Int) < (s.size : Int)) = false := decide_eq_false (by omega)
  have hd2 : decide (7 < s.size) = false := decide_eq_false h7
  cases ha : Lib.atoi s.data.toList with
  | none =>
    have c1 := atoi_none s (by omega) ha w hE
    have HF := Lib.hid (show Tx.Reads s 0 false from by
      intro d h0 h1 hd
      rw [hd, Tx.atoi_dec h0 h1] at ha
      cases ha)
    clear ha h7
    go_enter Tryd.func25, Tryd.ntmps25
    go_wp2_with fail
    refine c1.mono ?_; rintro q_ w1 ⟨T, N, rfl, b1⟩
    go_wp2_with fail
    go_ret2
    exact ⟨⟨_, _, rfl, HF.out⟩, b1⟩
  | some n =>
    have c1 := atoi_some s n (by omega) ha w
    have HA := Lib.hid ha
    clear ha h7
    have c2 := fun W => inside_any n (-999999) 999999 W
    cases hi : inB n (-999999) 999999
    · have HF := Lib.hid (show Tx.Reads s 0 false from by
        intro d h0 h1 hd
        have h2 := HA.out
        rw [hd, Tx.atoi_dec h0 h1] at h2
        have h3 : inB n (-999999) 999999 = true := by rw [inB_iff]; injection h2 with h2; omega
        rw [hi] at h3
        cases h3)
      rw [hi] at c2
      clear hi
      go_enter Tryd.func25, Tryd.ntmps25
      go_wp2_with fail
      refine c1.mono ?_; rintro q_ w1 ⟨rfl, b1⟩
      go_wp2_with fail
      refine (c2 _).mono ?_; rintro q_ w_ ⟨rfl, rfl⟩
      go_wp2_with fail
      go_ret2
      exact ⟨⟨_, _, rfl, HF.out⟩, b1⟩
    · have hb := (inB_iff _ _ _).1 hi
      have c3 := fun W hE => itoa_any n W hE (by omega) (by omega)
      rw [hi] at c2
      clear hi
      obtain ⟨S, hS⟩ : ∃ S : ByteArray, S = ⟨(Lib.itoa n).toArray⟩ := ⟨_, rfl⟩
      rw [← hS] at c3
      have HS := Lib.hid hS
      clear hS
      go_enter Tryd.func25, Tryd.ntmps25
      go_wp2_with fail
      refine c1.mono ?_; rintro q_ w1 ⟨rfl, b1⟩
      go_wp2_with fail
      refine (c2 _).mono ?_; rintro q_ w_ ⟨rfl, rfl⟩
      go_wp2_with fail
      refine (c3 _ (hE.below b1)).mono ?_; rintro q_ w3 ⟨rfl, b3⟩
      have hB := b1.trans (b3.mono b1.size)
      cases hq : (S.toList == s.toList)
      · have HF := Lib.hid (show Tx.Reads s 0 false from by
          intro d h0 h1 hd
          exfalso
          have h2 := HA.out
          rw [hd, Tx.atoi_dec h0 h1] at h2
          injection h2 with h2
          have h3 : S = s := by
            rw [HS.out, ← h2, Tx.itoa_dec h0 h1, ← hd]
          rw [h3] at hq
          simp at hq)
        go_wp2_with fail
        go_ret2
        exact ⟨⟨_, _, rfl, HF.out⟩, hB⟩
      · have HF := Lib.hid (show Tx.Reads s n true from by
          intro d h0 h1 hd
          have h2 := HA.out
          rw [hd, Tx.atoi_dec h0 h1] at h2
          injection h2 with h2
          exact ⟨h2.symm, rfl⟩)
        go_wp2_with fail
        go_ret2
        exact ⟨⟨_, _, rfl, HF.out⟩, hB⟩

end Go.Proofs.YtaggjadgbmmjoaaDoor
