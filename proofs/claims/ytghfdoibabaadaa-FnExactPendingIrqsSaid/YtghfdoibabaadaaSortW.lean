/- The library's sort of at most 12 waiting interrupts by their urgency. Condition: at most 12. -/
import Derived.Test.YtghfdoibabaadaaInsP
import Derived.Test.YtghfdoibabaadaaLenS
import Derived.Test.YtghfdoibabaadaaQu
import Derived.Test.YtghfdoibabaadaaBox
import Derived.Test.YtghfdoibabaadaaSlBest
import Derived.BigQuiet
import Derived.Deep.QuietTactic
namespace Go.Proofs.Ytghfdoibabaadaa
open Go.RowKit Go.ChangeShapes Go.WideShapes Go.Deep

theorem Turned.below {w w1 w2 : World} {v : Value} {n : Nat} (ht : Turned w w1 v n) (hb : Below w1.heap.size w1 w2) : Turned w w2 v n := by
  obtain ⟨row, hg, hr⟩ := ht
  exact ⟨row, grown_trans hg (World.grownBy.mk hb.os hb.tape hb.output hb.size (fun k hk _ => hb.block k hk)), hr⟩
theorem Turned.drew {w w1 : World} {v : Value} {n : Nat} (ht : Turned w w1 v n) : Turned w w1.drew v n := ht.below (Below.refl w1.heap.size w1).drew
theorem Turned.setL {w w1 : World} {b off n c m : Nat} (ht : Turned w w1 (.slice (some ⟨b, off, none⟩) n c) m) (hm : 0 < m) (o : Nat) (vs : List Value) : Turned w (setL w1 b o vs) (.slice (some ⟨b, off, none⟩) n c) m := by
  obtain ⟨row, hg, hr⟩ := ht
  have hw : w.grownBy w1 (some b) := ⟨hg.os, hg.tape, hg.output, hg.size, fun i hi hne => hg.block i hi (fun e => hne (by
    have := (hr i e.symm).2
    simp [Value.ownBlock] at this
    rw [this]))⟩
  exact ⟨some b, grown_trans hw (setL_grown vs w1 b o), fun g e => ⟨hm, by simpa [Value.ownBlock] using e⟩⟩
set_option maxHeartbeats 4000000 in
set_option maxRecDepth 8000 in
theorem isortW_any (w0 : World) (v : Value) (l : List Wt) (n : Nat) (hn : n = l.length) (w : World) {hi : Nat} (hb0 : Below w0.heap.size w0 w)
    (h : Ow Wt.cells 2 69 w w0.heap.size hi v l) (hh : hi ≤ w.heap.size) :
    Calls Try.prog 112 #[v, .int .i64 0, .int .i64 n, .func (.func 78) #[] #[]] w fun e w' => e = .returned (.tuple #[]) ∧ Ow Wt.cells 2 69 w' w0.heap.size hi v (sortK Wt.lt l) ∧ hi ≤ w'.heap.size ∧ Below w0.heap.size w0 w' ∧ Turned w w' v l.length := by
  obtain ⟨A, n', c, rfl, H, hc, hm⟩ := h.rd.form
  obtain rfl : n' = n := H.out.trans hn.symm
  clear hn
  go_enter Try.func112, Try.ntmps112
  go_wp2_with fail
  go_loopw [8] (fun i wr => ∃ (k : Nat) (ik : Int), i = .int .i64 ik ∧ Hid (ik = k + 1) ∧ k ≤ n' ∧ Below w0.heap.size w0 wr ∧ hi ≤ wr.heap.size ∧ Ow Wt.cells 2 69 wr w0.heap.size hi (.slice A n' c) (sortK Wt.lt (l.take (k + 1)) ++ l.drop (k + 1)) ∧ Turned w wr (.slice A n' c) l.length) (fun i _ => n' + 1 - (intOf i).toNat)
  case atStart =>
    refine ⟨0, 1, rfl, Lib.hid (by simp), Nat.zero_le _, hb0, hh, ?_, Turned.refl _ _ _⟩
    have : sortK Wt.lt (l.take 1) ++ l.drop 1 = l := by
      cases l with
      | nil => rfl
      | cons x l => simp [sortK, insK, bk]
    rw [this]; exact h
  case round =>
    obtain ⟨k, ik, rfl, HI, hk, hb, hh2, ow, tt⟩ := hrel
    clear hb0 h hh
    have hik0 : 0 < ik := by have := HI.out; omega
    by_cases hlt : ik < (n' : Int)
    · have hlt1 : k + 1 < n' := by have := HI.out; omega
      have hd0 : decide (ik < (n' : Int)) = true := decide_eq_true hlt
      have hkl : k + 1 < l.length := by rw [← H.out]; exact hlt1
      have hSl : (sortK Wt.lt (l.take (k + 1))).length = k + 1 := by rw [sortK_len, List.length_take]; omega
      have HX := Lib.hid (show sortK Wt.lt (l.take (k + 1 + 1)) = insK Wt.lt (sortK Wt.lt (l.take (k + 1))) (l[k + 1]) from sortK_pre (List.getElem?_eq_getElem hkl))
      rw [List.drop_eq_getElem_cons hkl] at ow
      generalize sortK Wt.lt (l.take (k + 1)) = S at *
      generalize l[k + 1] = x at *
      obtain ⟨rest, HR⟩ : ∃ rest, Hid (l.drop (k + 1 + 1) = rest) := ⟨_, Lib.hid rfl⟩
      rw [HR.out] at ow
      have ow2 : Ow Wt.cells 2 69 wr w0.heap.size hi (.slice A n' c) (walkK S x (k + 1) ++ rest) := by
        rw [← hSl, walkK_end]; simpa using ow
      clear ow
      go_wp2_with fail
      go_loopw [9] (fun j w2 => ∃ m : Nat, j = .int .i64 m ∧ m ≤ k + 1 ∧ Below w0.heap.size w0 w2 ∧ hi ≤ w2.heap.size ∧ Ow Wt.cells 2 69 w2 w0.heap.size hi (.slice A n' c) (walkK S x m ++ rest) ∧ Hid (∀ (j : Nat) (y : Wt), m ≤ j → S[j]? = some y → x.lt y = true) ∧ Turned w w2 (.slice A n' c) l.length) (fun j _ => (intOf j).toNat)
      case atStart => exact ⟨k + 1, by rw [HI.out]; rfl, Nat.le_refl _, hb, hh2, ow2, Lib.hid (fun j y hj hy => by rw [List.getElem?_eq_none (by omega)] at hy; cases hy), tt⟩
      case round =>
        obtain ⟨m, rfl, hm2, hb3, hh3, ow3, HJ, tt3⟩ := hrel
        clear hb hh2 ow2 tt
        by_cases hm0 : m = 0
        · subst hm0
          have HQ := Lib.hid (show walkK S x 0 = insK Wt.lt S x from walkK_ins (bk_eq x S 0 (Nat.zero_le _) HJ.out (fun j y h => by omega)))
          have hd : decide ((0 : Int) < ((0 : Nat) : Int)) = false := by simp
          go_wp2_with fail
          refine wp_region_ext_all (by kernel_rfl) (by kernel_rfl) ?_
          repeat (go_big_quiet_step (fail))
          refine wpQuiet_nil ?_
          intro w5 b5
          have z5 := b5.size
          go_wp2_with fail
          go_roundw
          case rel => exact ⟨k + 1, ik + 1, by go_num, Lib.hid (by rw [HI.out]; simp), by omega, hb3.trans (b5.mono hb3.size), by omega, by rw [HX.out, ← HQ.out, HR.out]; exact ow3.below b5 hh3, tt3.below b5⟩
          case measure => simp [intOf] <;> omega
        · obtain ⟨m', rfl⟩ : ∃ m', m = m' + 1 := ⟨m - 1, by omega⟩
          clear hm0
          have hmS : m' < S.length := by omega
          have hyS : S[m']? = some S[m'] := List.getElem?_eq_getElem hmS
          generalize S[m'] = y at hyS
          obtain ⟨b, off, x1, rfl, hx1, hbl0, hbl, f0, f1⟩ := Wt.get ow3.rd (k := m' + 1) (by omega) (Below.refl wr.heap.size wr) hh3
          obtain ⟨_, _, y1, e, hy1, _, _, g0, g1⟩ := Wt.get ow3.rd (k := m') (by omega) (Below.refl wr.heap.size wr) hh3
          injection e with e
          injection e with e1 e2
          subst e1; subst e2
          have hwl : (walkK S x (m' + 1)).length = k + 2 := by simp [walkK, hSl]; omega
          obtain rfl : x1 = x := by
            have := hx1.out
            rw [List.getElem?_append_left (by omega), walkK_at (by omega)] at this
            exact (Option.some.inj this).symm
          obtain rfl : y1 = y := by
            have := hy1.out
            rw [List.getElem?_append_left (by omega), walkK_before hmS, hyS] at this
            exact (Option.some.inj this).symm
          have hcz := urg_neg ⟨x1.irq, x1.prio⟩ ⟨y1.irq, y1.prio⟩
          have hd : decide ((0 : Int) < ((m' + 1 : Nat) : Int)) = true := by simp
          have hi1 : ((m' + 1 : Nat) : Int) < (n' : Int) := by omega
          have e0 := cell_ext f0; have e1 := cell_ext f1; have e2 := cell_ext g0; have e3 := cell_ext g1
          by_cases hq : Wt.lt x1 y1 = true
          · have hd2 : decide (urg ⟨x1.irq, x1.prio⟩ ⟨y1.irq, y1.prio⟩ < 0) = true := decide_eq_true (hcz.2 hq)
            have HW := Lib.hid (walkK_step (rest := rest) (x := x1) hyS)
            have HJ2 := Lib.hid (show ∀ (j : Nat) (y : Wt), m' ≤ j → S[j]? = some y → x1.lt y = true from fun j y hj hy => by
              by_cases hjm : j = m'
              · subst hjm; rw [hyS] at hy; exact (Option.some.inj hy) ▸ hq
              · exact HJ.out j y (by omega) hy)
            clear hcz hq hyS HJ
            go_wp2_with fail
            refine wp_region_ext_all (by kernel_rfl) (by kernel_rfl) ?_
            repeat (go_big_quiet_step (exact calls_ext (compareUrgency_at _ _ _ _ _)))
            refine wpQuiet_nil ?_
            intro w5 b5
            clear e0 e1 e2 e3
            have z5 := b5.size
            replace ow3 := ow3.below b5 hh3
            replace f0 := (b5.cell (p := ⟨b, _, none⟩) (by show b < _; omega)).trans f0
            replace f1 := (b5.cell (p := ⟨b, _, none⟩) (by show b < _; omega)).trans f1
            replace g0 := (b5.cell (p := ⟨b, _, none⟩) (by show b < _; omega)).trans g0
            replace g1 := (b5.cell (p := ⟨b, _, none⟩) (by show b < _; omega)).trans g1
            have hz := ow3.frozen (by omega)
            replace hb3 := hb3.trans (b5.mono hb3.size)
            replace tt3 := tt3.below b5
            clear b5
            go_wp2_with fail
            go_region
            generalize hw : World.setCell (World.setCell (World.setCell (World.setCell _ _ _) _ _) _ _) _ _ = w3
            obtain rfl : w3 = setL (setL w5 b (off + (m' + 1) * 2) [.int .i64 y1.irq, .int .i64 y1.prio]) b (off + m' * 2) [.int .i64 x1.irq, .int .i64 x1.prio] := hw.symm
            clear hw
            have u1 : Upd 69 2 w5 (setL w5 b (off + (m' + 1) * 2) [.int .i64 y1.irq, .int .i64 y1.prio]) b (off + (m' + 1) * 2) (Wt.cells x1) (Wt.cells y1) := by
              have := Upd.of_setL (E := 69) (sz := 2) (w := w5) (b := b) (o := off + (m' + 1) * 2) (xs := Wt.cells x1) (ys' := Wt.cells y1) (ys := [.int .i64 y1.irq, .int .i64 y1.prio]) 0 rfl rfl (by simp)
              simpa using this
            have o2 := ow3.upd Wt.cells_len (by omega) hx1.out u1
            have u2 : Upd 69 2 (setL w5 b (off + (m' + 1) * 2) [.int .i64 y1.irq, .int .i64 y1.prio]) (setL (setL w5 b (off + (m' + 1) * 2) [.int .i64 y1.irq, .int .i64 y1.prio]) b (off + m' * 2) [.int .i64 x1.irq, .int .i64 x1.prio]) b (off + m' * 2) (Wt.cells y1) (Wt.cells x1) := by
              have := Upd.of_setL (E := 69) (sz := 2) (w := setL w5 b (off + (m' + 1) * 2) [.int .i64 y1.irq, .int .i64 y1.prio]) (b := b) (o := off + m' * 2) (xs := Wt.cells y1) (ys' := Wt.cells x1) (ys := [.int .i64 x1.irq, .int .i64 x1.prio]) 0 rfl rfl (by simp)
              simpa using this
            have o3 := o2.upd Wt.cells_len (by omega) (by rw [List.getElem?_set_ne (by omega)]; exact hy1.out) u2
            rw [HW.out] at o3
            have bb := setL_below (setL_below hb3 [.int .i64 y1.irq, .int .i64 y1.prio] b (off + (m' + 1) * 2) hbl0) [.int .i64 x1.irq, .int .i64 x1.prio] b (off + m' * 2) hbl0
            have hs3 : hi ≤ (setL (setL w5 b (off + (m' + 1) * 2) [.int .i64 y1.irq, .int .i64 y1.prio]) b (off + m' * 2) [.int .i64 x1.irq, .int .i64 x1.prio]).heap.size := by rw [setL_size, setL_size]; omega
            go_wp2_with fail
            go_roundw
            case rel => exact ⟨m', by go_num, by omega, bb.drew, hs3, o3.drew, HJ2, ((tt3.setL (by have := H.out; omega) _ _).setL (by have := H.out; omega) _ _).drew⟩
            case measure => simp [intOf] <;> omega
          · have hd2 : decide (urg ⟨x1.irq, x1.prio⟩ ⟨y1.irq, y1.prio⟩ < 0) = false := decide_eq_false (fun h => hq (hcz.1 h))
            have hJ : ∀ (j : Nat) (y : Wt), m' + 1 = j + 1 → S[j]? = some y → x1.lt y = false := fun j y hj hy => by
              obtain rfl : j = m' := by omega
              rw [hyS] at hy
              obtain rfl := Option.some.inj hy
              exact Bool.eq_false_iff.2 hq
            have HQ := Lib.hid (show walkK S x1 (m' + 1) = insK Wt.lt S x1 from walkK_ins (bk_eq x1 S (m' + 1) (by omega) HJ.out hJ))
            clear hJ
            clear hcz hq hyS hx1 hy1 HJ
            go_wp2_with fail
            refine wp_region_ext_all (by kernel_rfl) (by kernel_rfl) ?_
            repeat (go_big_quiet_step (exact calls_ext (compareUrgency_at _ _ _ _ _)))
            refine wpQuiet_nil ?_
            intro w5 b5
            clear e0 e1 e2 e3
            have z5 := b5.size
            go_wp2_with fail
            go_roundw
            case rel => exact ⟨k + 1, ik + 1, by go_num, Lib.hid (by rw [HI.out]; simp), by omega, hb3.trans (b5.mono hb3.size), by omega, by rw [HX.out, ← HQ.out, HR.out]; exact ow3.below b5 hh3, tt3.below b5⟩
            case measure => simp [intOf] <;> omega
    · have h1 : l.take (k + 1) = l := List.take_of_length_le (by have := HI.out; rw [← H.out]; omega)
      have h2 : l.drop (k + 1) = [] := List.drop_of_length_le (by have := HI.out; rw [← H.out]; omega)
      rw [h1, h2, List.append_nil] at ow
      go_wp2_with fail
      go_end0
      exact ⟨rfl, ow, hh2, hb, tt⟩
set_option maxHeartbeats 4000000 in
theorem pdqW_any (w0 : World) (v : Value) (l : List Wt) (n : Nat) (hn : n = l.length) (hn12 : n ≤ 12) (r : Int) (w : World) {hi : Nat} (hb0 : Below w0.heap.size w0 w) (h : Ow Wt.cells 2 69 w w0.heap.size hi v l) (hh : hi ≤ w.heap.size) :
    Calls Try.prog 107 #[v, .int .i64 0, .int .i64 n, .int .i64 r, .func (.func 78) #[] #[]] w fun e w' => e = .returned (.tuple #[]) ∧ Ow Wt.cells 2 69 w' w0.heap.size hi v (sortK Wt.lt l) ∧ hi ≤ w'.heap.size ∧ Below w0.heap.size w0 w' ∧ Turned w w' v l.length := by
  have c1 := isortW_any w0 v l n hn w hb0 h hh
  have hd : decide ((n : Int) ≤ 12) = true := decide_eq_true (by omega)
  clear hn
  go_enter Try.func107, Try.ntmps107
  go_wp2_with fail
  go_loopw [1, 2, 3, 10, 11] (fun a b c d e wr => wr = w ∧ a = .int .i64 0 ∧ b = .int .i64 n) (fun _ _ _ _ _ _ => 0)
  case atStart => exact ⟨rfl, rfl, rfl⟩
  case round =>
    obtain ⟨rfl, rfl, rfl⟩ := hrel
    go_wp2_with fail
    refine c1.mono ?_
    rintro e w1 ⟨rfl, o1, hh1, b1, t1⟩
    go_wp2_with fail
    (try simp only [Exit.inBlock, Exit.then]); refine bodyPost_ret (results_none rfl _ _ _) rfl ?_
    exact ⟨rfl, o1, hh1, b1, t1⟩

theorem sortW_any (w0 : World) (v : Value) (l : List Wt) (hl : l.length ≤ 12) (w : World) {hi : Nat} (hb0 : Below w0.heap.size w0 w) (h : Ow Wt.cells 2 69 w w0.heap.size hi v l) (hh : hi ≤ w.heap.size) :
    Calls Try.prog 100 #[v, .func (.func 78) #[] #[]] w fun e w' => e = .returned (.tuple #[]) ∧ Ow Wt.cells 2 69 w' w0.heap.size hi v (sortK Wt.lt l) ∧ hi ≤ w'.heap.size ∧ Below w0.heap.size w0 w' ∧ Turned w w' v l.length := by
  obtain ⟨A, n, c, rfl, H, hc, hm⟩ := h.rd.form
  rw [← H.out] at hl
  have c1 := fun r => pdqW_any w0 _ l n H.out hl r w hb0 h hh
  have c2 := fun W => len_small n W (by omega) (by omega)
  clear h
  go_enter Try.func100, Try.ntmps100
  go_wp2_with fail
  refine (c2 _).mono ?_; rintro e w' ⟨⟨r, rfl⟩, rfl⟩
  go_wp2_with fail
  refine (c1 r).mono ?_; rintro e w1 ⟨rfl, o1, hh1, b1, t1⟩
  go_wp2_with fail
  go_end0
  exact ⟨rfl, o1, hh1, b1, t1⟩

end Go.Proofs.Ytghfdoibabaadaa
