/- The library's DeleteFunc on a list of numbers in its own memory. Condition: the test does not depend on the numbers' own memory. -/
import Derived.Test.YtgnalbfepkcokaaTyInt
import Derived.Test.YtgnalbfepkcokaaBase3
import Derived.Lib.SliceRun
namespace Go.Proofs.Ytgnalbfepkcokaa
open Go.RowKit Go.ChangeShapes Go.WideShapes Go.Deep

theorem setCells_setL (b : Nat) : ∀ (vs : List Value) (w : World) (o : Nat), w.setCells b o vs = setL w b o vs
  | [], _, _ => rfl
  | v :: vs, w, o => by unfold World.setCells setL; exact setCells_setL b vs _ (o + 1)

theorem Ow.take_clear {α : Type} {cells : α → List Value} {E : TypeId} {w : World} {lo hi b off n c q : Nat} {S : List α} (hcl : ∀ x, (cells x).length = 1) (h : Ow cells 1 E w lo hi (.slice (some ⟨b, off, none⟩) n c) S) (hq : q < n) {vs : List Value} (hv : vs.length = n - q) :
    Ow cells 1 E (setL w b (off + q) vs) lo hi (.slice (some ⟨b, off, none⟩) q c) (S.take q) := by
  obtain ⟨A', c', hv', hc, hm, h⟩ := h
  injection hv' with e1 e2 e3
  subst e1; subst e2; subst e3
  obtain ⟨b', off', cur, hA, hb1, hb2, hh, hx⟩ := h (by omega)
  injection hA with hA
  injection hA with e1 e2
  subst e1; subst e2
  have hsz : off + S.length ≤ cur.size := by
    have hl : S[S.length - 1]? = some (S[S.length - 1]'(by omega)) := List.getElem?_eq_getElem _
    have h0 := hcl (S[S.length - 1]'(by omega))
    match hcx : cells (S[S.length - 1]'(by omega)) with
    | [] => rw [hcx] at h0; cases h0
    | u :: r =>
      have := hx _ _ hl 0 u (by rw [hcx]; rfl)
      have := (Array.getElem?_eq_some_iff.1 this).1
      omega
  obtain ⟨cur', e1, e2, _, e4⟩ := setL_row E vs w b (off + q) cur hh (by omega)
  have hl : (S.take q).length = q := by rw [List.length_take]; omega
  refine ⟨_, c, by rw [hl], by omega, hm, fun _ => ⟨b, off, cur', rfl, hb1, hb2, e1, fun k x hk j u hu => ?_⟩⟩
  rw [List.getElem?_take] at hk
  split at hk
  · rename_i hkq
    have hj : j < 1 := by have := (List.getElem?_eq_some_iff.1 hu).1; rw [hcl] at this; exact this
    rw [e4 _ (by omega)]
    exact hx k x hk j u hu
  · cases hk

theorem Nm.index_any (g : FuncId) (lb : Array Value) (p : Int → Bool) (v : Value) (l : List Int) (w : World) {lo hi : Nat} (h : Rd Nm.cells 1 w lo hi v l) (hh : hi ≤ w.heap.size)
    (eg : ∀ args w, (callFunc g args).run Try.prog w = .ok (.enter g args) w)
    (hp : ∀ (t : Int) (W : World), t ∈ l → Below w.heap.size w W → Calls Try.prog g (#[.int .i64 t] ++ lb) W fun e w' => e = .returned (.bool (p t)) ∧ Below W.heap.size W w') :
    Calls Try.prog 129 #[v, .func (.func g) #[] lb] w fun e w' => e = .returned (.int .i64 (findIx p l)) ∧ Below w.heap.size w w' := by
  obtain ⟨A, n, c, rfl, H, hc, hm⟩ := h.form
  have HP := Lib.hid hp
  clear hp
  go_enter Try.func129, Try.ntmps129
  go_wp2_with fail
  go_loopw [8] (fun i wr => ∃ k : Nat, k ≤ n ∧ i = .int .i64 k ∧ Below w.heap.size w wr ∧ (l.take k).any p = false) (fun i _ => n - (intOf i).toNat)
  case atStart => exact ⟨0, Nat.zero_le _, rfl, Below.refl _ _, by simp⟩
  case round =>
    obtain ⟨k, hk, rfl, hb, he⟩ := hrel
    have HE := Lib.hid he
    clear he
    by_cases hlt : k < n
    · obtain ⟨b, off, x, rfl, hx, _, _, f0⟩ := Nm.get h hlt hb hh
      have c1 := HP.out x wr (List.mem_of_getElem? hx.out) hb
      cases hq : p x
      · rw [hq] at c1
        have HF := Lib.hid hq
        clear hq
        go_wp2_with fail
        refine c1.mono ?_; rintro e w1 ⟨rfl, hb1⟩
        go_wp2_with fail
        go_roundw
        case rel => exact ⟨k + 1, by omega, by go_num, hb.trans (hb1.mono hb.size), by rw [List.take_add_one, List.any_append, HE.out, hx.out]; simp [HF.out]⟩
        case measure => simp [intOf]; omega
      · rw [hq] at c1
        have HF := Lib.hid (findIx_hit HE.out hx.out hq)
        clear hq
        go_wp2_with fail
        refine c1.mono ?_; rintro e w1 ⟨rfl, hb1⟩
        go_wp2_with fail
        go_ret
        exact ⟨ret_int HF.out.symm, hb.trans (hb1.mono hb.size)⟩
    · go_wp2_with fail
      go_ret
      have he := HE.out
      rw [List.take_of_length_le (by rw [← H.out]; omega)] at he
      exact ⟨ret_int (by simp [findIx, he]), hb⟩

theorem zeroInt (w : World) : (zeroValue 3).run Try.prog w = .ok (.int .i64 0) w := by kernel_rfl

set_option maxHeartbeats 1000000 in
theorem Nm.delete_any (g : FuncId) (lb : Array Value) (p : Int → Bool) (w0 : World) (v : Value) (l : List Int) (w : World) {hi : Nat} (hb0 : Below w0.heap.size w0 w) (h : Ow Nm.cells 1 3 w w0.heap.size hi v l) (hh : hi ≤ w.heap.size)
    (eg : ∀ args w, (callFunc g args).run Try.prog w = .ok (.enter g args) w)
    (hp : ∀ (t : Int) (W : World), t ∈ l → Below w0.heap.size w0 W → Calls Try.prog g (#[.int .i64 t] ++ lb) W fun e w' => e = .returned (.bool (p t)) ∧ Below W.heap.size W w') :
    Calls Try.prog 121 #[v, .func (.func g) #[] lb] w fun e w' => ∃ v', e = .returned v' ∧ Ow Nm.cells 1 3 w' w0.heap.size hi v' (l.filter (fun x => !p x)) ∧ hi ≤ w'.heap.size ∧ Below w0.heap.size w0 w' := by
  have c1 := Nm.index_any g lb p v l w h.rd hh eg (fun t W ht hW => hp t W ht (hb0.trans (hW.mono hb0.size)))
  have hpl := Lib.hid hp
  clear hp
  obtain ⟨A, n, c, rfl, H, hc, hm⟩ := h.rd.form
  cases ha : l.any p
  · have HF := Lib.hid (show l.filter (fun x => !p x) = l from by
      rw [List.filter_eq_self]
      intro x hx
      have := List.any_eq_false.1 ha x hx
      simpa using this)
    rw [show findIx p l = -1 from by simp [findIx, ha]] at c1
    clear ha
    go_enter Try.func121, Try.ntmps121
    go_wp2_with fail
    refine c1.mono ?_; rintro e w1 ⟨rfl, b1⟩
    go_wp2_with fail
    go_ret
    exact ⟨_, rfl, by rw [HF.out]; exact h.below b1 hh, Nat.le_trans hh b1.size, hb0.trans (b1.mono hb0.size)⟩
  · obtain ⟨i, x0, hi0, hil, hx0, hp0, hpre⟩ := findIx_spec ha
    rw [hi0] at c1
    clear hi0 ha
    rw [← H.out] at hil
    have HS := Lib.hid (show (l.take (i + 1)).filter (fun x => !p x) = l.take i from by
      rw [List.take_add_one, hx0, List.filter_append, (List.filter_eq_self (l := l.take i)).2 (fun x hx => by have := List.any_eq_false.1 hpre x hx; simpa using this)]
      simp [hp0])
    clear hx0 hp0 hpre
    have hi1 : ((i : Int) == -1) = false := by rw [beq_eq_false_iff_ne]; omega
    go_enter Try.func121, Try.ntmps121
    go_wp2_with fail
    refine c1.mono ?_; rintro e w1 ⟨rfl, b1⟩
    have h1 := h.below b1 hh
    have hb1 := hb0.trans (b1.mono hb0.size)
    have hh1 := Nat.le_trans hh b1.size
    clear b1 c1 h hb0 hh
    go_wp2_with fail
    go_loopw [5, 6] (fun q j wr => ∃ (kq kj : Nat) (S : List Int), q = .int .i64 kq ∧ j = .int .i64 kj ∧ kq < kj ∧ kj ≤ n ∧ Below w0.heap.size w0 wr ∧ hi ≤ wr.heap.size ∧ Ow Nm.cells 1 3 wr w0.heap.size hi (.slice A n c) S ∧ Hid (S.take kq = (l.take kj).filter (fun x => !p x)) ∧ Hid (S.drop kj = l.drop kj)) (fun _ j _ => n - (intOf j).toNat)
    case atStart => exact ⟨i, i + 1, l, rfl, by go_num, by omega, by omega, hb1, hh1, h1, Lib.hid HS.out.symm, Lib.hid rfl⟩
    case round =>
      clear h1 hb1 hh1
      obtain ⟨kq, kj, S, rfl, rfl, hqj, hjn, hb, hz, ow, HT, HD⟩ := hrel
      have HL := Lib.hid (show n = S.length from by obtain ⟨_, _, e, _⟩ := ow; injection e)
      by_cases hlt : kj < n
      · obtain ⟨b, off, x, rfl, hx, hbl0, hbl, f0⟩ := Nm.get ow.rd hlt (Below.refl wr.heap.size wr) hz
        have hxl : l[kj]? = some x := by
          have h1 : (S.drop kj)[0]? = (l.drop kj)[0]? := by rw [HD.out]
          rw [List.getElem?_drop, List.getElem?_drop] at h1
          simp only [Nat.add_zero] at h1
          rw [← h1]; exact hx.out
        have HX := Lib.hid hxl
        have c2 := hpl.out x wr (List.mem_of_getElem? hxl) hb
        clear hxl
        have hfz := ow.frozen (by omega)
        have hqn : kq < n := by omega
        obtain ⟨_, _, y, e, hy, _, _, g0⟩ := Nm.get ow.rd hqn (Below.refl wr.heap.size wr) hz
        injection e with e
        injection e with e1 e2
        subst e1; subst e2
        cases hq : p x
        · rw [hq] at c2
          have HT2 := Lib.hid (show (S.set kq x).take (kq + 1) = (l.take (kj + 1)).filter (fun x => !p x) from by
            have hqs : kq < S.length := by rw [← HL.out]; exact hqn
            rw [List.take_add_one, List.take_set_of_le (Nat.le_refl _), List.getElem?_set_self hqs, HT.out, List.take_add_one, HX.out, List.filter_append]
            simp [hq])
          have HD2 := Lib.hid (show (S.set kq x).drop (kj + 1) = l.drop (kj + 1) from by
            rw [List.drop_set_of_lt (by omega), ← List.drop_drop, ← List.drop_drop, HD.out])
          clear hq
          go_wp2_with fail
          refine c2.mono ?_; rintro e w2 ⟨rfl, b2⟩
          have ow2 := ow.below b2 hz
          replace hfz := ow2.frozen (by omega)
          replace g0 := (b2.cell (p := ⟨b, off + kq, none⟩) (by show b < _; omega)).trans g0
          have hb2 := hb.trans (b2.mono hb.size)
          have hz2 := Nat.le_trans hz b2.size
          clear ow f0
          go_wp2_with fail
          generalize hw : World.setCell _ _ _ = w5
          obtain rfl : w5 = setL w2 b (off + kq) [.int .i64 x] := hw.symm
          clear hw
          have hu : Upd 3 1 w2 (setL w2 b (off + kq) [.int .i64 x]) b (off + kq * 1) (Nm.cells y) (Nm.cells x) := by
            have := Upd.of_setL (E := 3) (sz := 1) (w := w2) (b := b) (o := off + kq) (xs := Nm.cells y) (ys' := Nm.cells x) (ys := [.int .i64 x]) 0 rfl rfl (by simp)
            simpa using this
          have o5 := ow2.upd Nm.cells_len (by omega) hy.out hu
          have b5 := setL_below hb2 [.int .i64 x] b (off + kq) hbl0
          have hs5 : hi ≤ (setL w2 b (off + kq) [.int .i64 x]).heap.size := by rw [setL_size]; exact hz2
          go_roundw
          case rel => exact ⟨kq + 1, kj + 1, S.set kq x, by go_num, by go_num, by omega, by omega, b5, hs5, o5, HT2, HD2⟩
          case measure => simp [intOf]; omega
        · rw [hq] at c2
          have HT2 := Lib.hid (show S.take kq = (l.take (kj + 1)).filter (fun x => !p x) from by
            rw [HT.out, List.take_add_one, HX.out, List.filter_append]; simp [hq])
          have HD2 := Lib.hid (show S.drop (kj + 1) = l.drop (kj + 1) from by rw [← List.drop_drop, ← List.drop_drop, HD.out])
          clear hq
          go_wp2_with fail
          refine c2.mono ?_; rintro e w2 ⟨rfl, b2⟩
          go_wp2_with fail
          go_roundw
          case rel => exact ⟨kq, kj + 1, S, rfl, by go_num, by omega, by omega, hb.trans (b2.mono hb.size), Nat.le_trans hz b2.size, ow.below b2 hz, HT2, HD2⟩
          case measure => simp [intOf]; omega
      · have hjn' : kj = n := by omega
        have hqn : kq < n := by omega
        have HR := Lib.hid (show S.take kq = l.filter (fun x => !p x) from by rw [HT.out, List.take_of_length_le (by rw [← H.out]; omega)])
        clear hjn'
        obtain ⟨b, off, x, rfl, hx, hbl0, hbl, f0⟩ := Nm.get ow.rd hqn (Below.refl wr.heap.size wr) hz
        have hcl : ∀ ty, (Builtin.clear_ #[47] ty #[.slice (some ⟨b, off + kq, none⟩) (n - kq) (c - kq)]).run Try.prog wr = .ok (.tuple #[]) (setL wr b (off + kq) (List.replicate (n - kq) (.int .i64 0))) := fun ty => by
          rw [← setCells_setL]
          refine Lib.run_clear_slice wr _ _ ty _ Try.underlying47 zeroInt rfl rfl b (off + kq) _ _ (by omega) (fun j hj => ?_) (fun j hj => ow.frozen (by omega) _)
          obtain ⟨_, _, y, e, hy, _, _, g0⟩ := Nm.get ow.rd (k := kq + j) (by omega) (Below.refl wr.heap.size wr) hz
          injection e with e
          injection e with e1 e2
          subst e1; subst e2
          rw [show off + kq + j = off + (kq + j) by omega, g0]; rfl
        have o5 := ow.take_clear Nm.cells_len hqn (vs := List.replicate (n - kq) (.int .i64 0)) (by simp)
        have b5 := setL_below hb (List.replicate (n - kq) (.int .i64 0)) b (off + kq) hbl0
        have hs5 : hi ≤ (setL wr b (off + kq) (List.replicate (n - kq) (.int .i64 0))).heap.size := by rw [setL_size]; exact hz
        have hck : ¬ c = kq := by omega
        have hqc : kq ≤ c := by omega
        go_wp2_with (simp only [hcl])
        go_ret
        exact ⟨_, rfl, by rw [← HR.out]; exact o5, hs5, b5⟩

end Go.Proofs.Ytgnalbfepkcokaa
