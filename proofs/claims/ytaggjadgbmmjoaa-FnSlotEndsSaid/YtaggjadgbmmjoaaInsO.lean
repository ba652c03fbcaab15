/- Sorting a short list of numbers by insertion, as the library does it. No condition on the numbers. -/
import Derived.Test.YtaggjadgbmmjoaaInsP
import Derived.Test.YtaggjadgbmmjoaaSmall
import Derived.Test.YtaggjadgbmmjoaaTyInt
import Derived.Test.YtaggjadgbmmjoaaBase3
import Derived.BigQuiet
import Derived.Deep.QuietTactic
namespace Go.Proofs.Ytaggjadgbmmjoaa
open Go.RowKit Go.ChangeShapes Go.WideShapes Go.Deep

def ltI (x y : Int) : Bool := decide (x < y)
theorem less_any (x y : Int) (w : World) : Calls Try.prog 73 #[.int .i64 x, .int .i64 y] w fun e w' => e = .returned (.bool (ltI x y)) ∧ w' = w := by
  by_cases h : x < y
  · have HE := Lib.hid (show ltI x y = true from decide_eq_true h)
    go_enter Try.func73, Try.ntmps73
    go_wp2
    go_ret
    exact ⟨ret_bool (by rw [HE.out]), rfl⟩
  · have HE := Lib.hid (show ltI x y = false from decide_eq_false h)
    go_enter Try.func73, Try.ntmps73
    go_wp2
    go_ret
    exact ⟨ret_bool (by rw [HE.out]), rfl⟩

set_option maxHeartbeats 1000000 in
theorem isortO_any (w0 : World) (v : Value) (l : List Int) (n : Nat) (hn : n = l.length) (w : World) {hi : Nat} (hb0 : Below w0.heap.size w0 w)
    (h : Ow Nm.cells 1 3 w w0.heap.size hi v l) (hh : hi ≤ w.heap.size) :
    Calls Try.prog 67 #[v, .int .i64 0, .int .i64 n] w fun e w' => e = .returned (.tuple #[]) ∧ Ow Nm.cells 1 3 w' w0.heap.size hi v (sortK ltI l) ∧ hi ≤ w'.heap.size ∧ Below w0.heap.size w0 w' := by
  obtain ⟨A, n', c, rfl, H, hc, hm⟩ := h.rd.form
  obtain rfl : n' = n := H.out.trans hn.symm
  clear hn
  go_enter Try.func67, Try.ntmps67
  go_wp2_with fail
  go_loopw [6] (fun i wr => ∃ (k : Nat) (ik : Int), i = .int .i64 ik ∧ Hid (ik = k + 1) ∧ k ≤ n' ∧ Below w0.heap.size w0 wr ∧ hi ≤ wr.heap.size ∧ Ow Nm.cells 1 3 wr w0.heap.size hi (.slice A n' c) (sortK ltI (l.take (k + 1)) ++ l.drop (k + 1))) (fun i _ => n' + 1 - (intOf i).toNat)
  case atStart =>
    refine ⟨0, 1, rfl, Lib.hid (by simp), Nat.zero_le _, hb0, hh, ?_⟩
    have : sortK ltI (l.take 1) ++ l.drop 1 = l := by
      cases l with
      | nil => rfl
      | cons x l => simp [sortK, insK, bk]
    rw [this]; exact h
  case round =>
    obtain ⟨k, ik, rfl, HI, hk, hb, hh2, ow⟩ := hrel
    clear hb0 h hh
    have hik0 : 0 < ik := by have := HI.out; omega
    by_cases hlt : ik < (n' : Int)
    · have hlt1 : k + 1 < n' := by have := HI.out; omega
      have hd0 : decide (ik < (n' : Int)) = true := decide_eq_true hlt
      have hkl : k + 1 < l.length := by rw [← H.out]; exact hlt1
      have HS := Lib.hid (show ∀ y, y ∈ sortK ltI (l.take (k + 1)) → y ∈ l from fun y hy => List.mem_of_mem_take (sortK_mem.1 hy))
      have hSl : (sortK ltI (l.take (k + 1))).length = k + 1 := by rw [sortK_len, List.length_take]; omega
      have HX := Lib.hid (show sortK ltI (l.take (k + 1 + 1)) = insK ltI (sortK ltI (l.take (k + 1))) (l[k + 1]) from sortK_pre (List.getElem?_eq_getElem hkl))
      have HM := Lib.hid (show l[k + 1] ∈ l from List.getElem_mem hkl)
      rw [List.drop_eq_getElem_cons hkl] at ow
      generalize sortK ltI (l.take (k + 1)) = S at *
      generalize l[k + 1] = x at *
      obtain ⟨rest, HR⟩ : ∃ rest, Hid (l.drop (k + 1 + 1) = rest) := ⟨_, Lib.hid rfl⟩
      rw [HR.out] at ow
      have ow2 : Ow Nm.cells 1 3 wr w0.heap.size hi (.slice A n' c) (walkK S x (k + 1) ++ rest) := by
        rw [← hSl, walkK_end]; simpa using ow
      clear ow
      go_wp2_with fail
      go_loopw [7] (fun j w2 => ∃ m : Nat, j = .int .i64 m ∧ m ≤ k + 1 ∧ Below w0.heap.size w0 w2 ∧ hi ≤ w2.heap.size ∧ Ow Nm.cells 1 3 w2 w0.heap.size hi (.slice A n' c) (walkK S x m ++ rest) ∧ Hid (∀ (j : Nat) (y : Int), m ≤ j → S[j]? = some y → ltI x y = true)) (fun j _ => (intOf j).toNat)
      case atStart => exact ⟨k + 1, by rw [HI.out]; rfl, Nat.le_refl _, hb, hh2, ow2, Lib.hid (fun j y hj hy => by rw [List.getElem?_eq_none (by omega)] at hy; cases hy)⟩
      case round =>
        obtain ⟨m, rfl, hm2, hb3, hh3, ow3, HJ⟩ := hrel
        clear hb hh2 ow2
        by_cases hm0 : m = 0
        · subst hm0
          have HQ := Lib.hid (show walkK S x 0 = insK ltI S x from walkK_ins (bk_eq x S 0 (Nat.zero_le _) HJ.out (fun j y h => by omega)))
          have hd : decide ((0 : Int) < ((0 : Nat) : Int)) = false := by simp
          go_wp2_with fail
          go_quiet (fail)
          go_wp2_with fail
          go_roundw
          case rel => exact ⟨k + 1, ik + 1, by go_num, Lib.hid (by rw [HI.out]; simp), by omega, below_drewN hb3 _, hh3, by rw [HX.out, ← HQ.out, HR.out]; exact ow3.drewN _⟩
          case measure => simp [intOf] <;> omega
        · obtain ⟨m', rfl⟩ : ∃ m', m = m' + 1 := ⟨m - 1, by omega⟩
          clear hm0
          have hmS : m' < S.length := by omega
          have hyS : S[m']? = some S[m'] := List.getElem?_eq_getElem hmS
          have hyl := HS.out _ (List.getElem_mem hmS)
          generalize S[m'] = y at hyS hyl
          obtain ⟨b, off, x1, rfl, hx1, _, hbl, f0⟩ := Nm.get ow3.rd (k := m' + 1) (by omega) (Below.refl wr.heap.size wr) hh3
          obtain ⟨_, _, y1, e, hy1, _, _, f1⟩ := Nm.get ow3.rd (k := m') (by omega) (Below.refl wr.heap.size wr) hh3
          injection e with e
          injection e with e1 e2
          subst e1; subst e2
          have hwl : (walkK S x (m' + 1)).length = k + 2 := by simp [walkK, hSl]; omega
          obtain rfl : x1 = x := by
            have := hx1.out
            rw [List.getElem?_append_left (by omega), walkK_at (by omega)] at this
            exact (Option.some.inj this).symm
          obtain rfl : y1 = y := by
            have := hy1.out
            rw [List.getElem?_append_left (by omega), walkK_before hmS, hyS] at this
            exact (Option.some.inj this).symm
          have hz := ow3.frozen (by omega)
          have c1 := fun n => less_any x1 y1 (wr.drewN n)
          have hd : decide ((0 : Int) < ((m' + 1 : Nat) : Int)) = true := by simp
          have hi1 : ((m' + 1 : Nat) : Int) < (n' : Int) := by omega
          by_cases hq : ltI x1 y1 = true
          · rw [hq] at c1
            have HW := Lib.hid (walkK_step (rest := rest) (x := x1) hyS)
            have HJ2 := Lib.hid (show ∀ (j : Nat) (y : Int), m' ≤ j → S[j]? = some y → ltI x1 y = true from fun j y hj hy => by
              by_cases hjm : j = m'
              · subst hjm; rw [hyS] at hy; exact (Option.some.inj hy) ▸ hq
              · exact HJ.out j y (by omega) hy)
            clear hq hyS HJ
            go_wp2_with fail
            go_quiet ((go_at_call 73; refine Calls.quiet_of_same (c1 _)))
            go_wp2_with fail
            go_region
            generalize hw : World.setCell (World.setCell _ _ _) _ _ = w3
            obtain rfl : w3 = setL (setL (wr.drewN (nq + 1)) b (off + (m' + 1)) [.int .i64 y1]) b (off + m') [.int .i64 x1] := hw.symm
            clear hw
            have o1 := ow3.drewN (nq + 1)
            have u1 : Upd 3 1 (wr.drewN (nq + 1)) (setL (wr.drewN (nq + 1)) b (off + (m' + 1)) [.int .i64 y1]) b (off + (m' + 1) * 1) (Nm.cells x1) (Nm.cells y1) := by
              have := Upd.of_setL (E := 3) (sz := 1) (w := wr.drewN (nq + 1)) (b := b) (o := off + (m' + 1)) (xs := Nm.cells x1) (ys' := Nm.cells y1) (ys := [.int .i64 y1]) 0 rfl rfl (by simp)
              simpa using this
            have o2 := o1.upd Nm.cells_len (by omega) hx1.out u1
            have u2 : Upd 3 1 (setL (wr.drewN (nq + 1)) b (off + (m' + 1)) [.int .i64 y1]) (setL (setL (wr.drewN (nq + 1)) b (off + (m' + 1)) [.int .i64 y1]) b (off + m') [.int .i64 x1]) b (off + m' * 1) (Nm.cells y1) (Nm.cells x1) := by
              have := Upd.of_setL (E := 3) (sz := 1) (w := setL (wr.drewN (nq + 1)) b (off + (m' + 1)) [.int .i64 y1]) (b := b) (o := off + m') (xs := Nm.cells y1) (ys' := Nm.cells x1) (ys := [.int .i64 x1]) 0 rfl rfl (by simp)
              simpa using this
            have o3 := o2.upd Nm.cells_len (by omega) (by rw [List.getElem?_set_ne (by omega)]; exact hy1.out) u2
            rw [HW.out] at o3
            have bb := setL_below (setL_below (below_drewN hb3 (nq + 1)) [.int .i64 y1] b (off + (m' + 1)) (by omega)) [.int .i64 x1] b (off + m') (by omega)
            have hs3 : hi ≤ (setL (setL (wr.drewN (nq + 1)) b (off + (m' + 1)) [.int .i64 y1]) b (off + m') [.int .i64 x1]).heap.size := by rw [setL_size, setL_size]; exact hh3
            go_wp2_with fail
            go_roundw
            case rel => exact ⟨m', by go_num, by omega, bb, hs3, o3, HJ2⟩
            case measure => simp [intOf] <;> omega
          · have hq2 : ltI x1 y1 = false := Bool.eq_false_iff.2 hq
            rw [hq2] at c1
            have hJ : ∀ (j : Nat) (y : Int), m' + 1 = j + 1 → S[j]? = some y → ltI x1 y = false := fun j y hj hy => by
              obtain rfl : j = m' := by omega
              rw [hyS] at hy
              obtain rfl := Option.some.inj hy
              exact Bool.eq_false_iff.2 hq
            have HQ := Lib.hid (show walkK S x1 (m' + 1) = insK ltI S x1 from walkK_ins (bk_eq x1 S (m' + 1) (by omega) HJ.out hJ))
            clear hJ
            clear hq hq2 hyS hx1 hy1 HJ
            go_wp2_with fail
            go_quiet ((go_at_call 73; refine Calls.quiet_of_same (c1 _)))
            go_wp2_with fail
            go_roundw
            case rel => exact ⟨k + 1, ik + 1, by go_num, Lib.hid (by rw [HI.out]; simp), by omega, below_drewN hb3 _, hh3, by rw [HX.out, ← HQ.out, HR.out]; exact ow3.drewN _⟩
            case measure => simp [intOf] <;> omega
    · have h1 : l.take (k + 1) = l := List.take_of_length_le (by have := HI.out; rw [← H.out]; omega)
      have h2 : l.drop (k + 1) = [] := List.drop_of_length_le (by have := HI.out; rw [← H.out]; omega)
      rw [h1, h2, List.append_nil] at ow
      go_wp2_with fail
      go_end0
      exact ⟨rfl, ow, hh2, hb⟩

end Go.Proofs.Ytaggjadgbmmjoaa
