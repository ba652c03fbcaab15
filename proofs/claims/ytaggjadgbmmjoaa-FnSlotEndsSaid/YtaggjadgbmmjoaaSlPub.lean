/- The functions on slots: whether they are valid, finding, counting, putting and ending, in the program and in the reference. No condition. -/
import Derived.Test.YtaggjadgbmmjoaaSlOps
namespace Go.Proofs.Ytaggjadgbmmjoaa
open Go.RowKit Go.ChangeShapes Go.WideShapes Go.Deep

def Sl.gI (l : List Sl) (i : Int) : Bool := Sl.good l && inB i 0 7
def Sl.gIP (l : List Sl) (i p : Int) : Bool := Sl.good l && (inB i 0 7 && inB p 0 15)
def Sl.fsOk (l : List Sl) (i : Int) : Bool := Sl.gI l i && decide (0 ≤ Sl.ix l i)
def Sl.fsV (l : List Sl) (i : Int) : Int := if Sl.fsOk l i then Sl.ix l i else 0
def Sl.emp (l : List Sl) : Int := if Sl.good l then (l.countP Sl.free : Nat) else 0
def Sl.pOk (l : List Sl) (i p : Int) : Bool := Sl.gIP l i p && Sl.putOk l i
def Sl.pR (l : List Sl) (i p : Int) : List Sl := if Sl.gIP l i p then Sl.putR l i p else []
def Sl.eOk (l : List Sl) (i : Int) : Bool := Sl.gI l i && Sl.endOk l i
def Sl.eR (l : List Sl) (i : Int) : List Sl := if Sl.gI l i then Sl.endR l i else []
theorem Sl.pR_len (l : List Sl) (i p : Int) : (Sl.pR l i p).length ≤ 1048576 := by
  unfold Sl.pR; split
  · rename_i h
    simp only [Sl.gIP, Bool.and_eq_true] at h
    exact Sl.putR_len l i p (by rw [Sl.good_len h.1]; decide)
  · simp
theorem Sl.eR_len (l : List Sl) (i : Int) : (Sl.eR l i).length ≤ 1048576 := by
  unfold Sl.eR; split
  · rename_i h
    simp only [Sl.gI, Bool.and_eq_true] at h
    exact Sl.endR_len l i (by rw [Sl.good_len h.1]; decide)
  · simp

set_option maxHeartbeats 1000000 in
theorem specFindSlot_any (v : Value) (l : List Sl) (i : Int) (w : World) {lo hi : Nat} (h : Rd Sl.cells 3 w lo hi v l) (hh : hi ≤ w.heap.size) :
    Calls Try.prog 22 #[v, .int .i64 i] w fun r w' => r = .returned (.tuple #[.int .i64 (Sl.fsV l i), .bool (Sl.fsOk l i)]) ∧ Below w.heap.size w w' := by
  have c1 := l8Good_any v l w h hh
  have d0 := fun W => l6Irq_any i W
  have c3 := fun (W : World) (kb : Below w.heap.size w W) => specFind_b v l i W (h.below kb hh) (Nat.le_trans hh kb.size)
  obtain ⟨A, n, c, rfl, H, hc, hm⟩ := h.form
  cases hg : Sl.good l
  · have HF := Lib.hid (show Sl.fsOk l i = false ∧ Sl.fsV l i = 0 from by simp [Sl.fsOk, Sl.fsV, Sl.gI, hg])
    rw [hg] at c1
    clear hg c3
    go_enter Try.func22, Try.ntmps22
    go_wp2_with fail
    refine c1.mono ?_; rintro q_ w1 ⟨rfl, b1⟩
    go_wp2_with fail
    go_ret2
    exact ⟨by rw [HF.out.1, HF.out.2]; rfl, b1⟩
  · cases h0 : inB i 0 7
    · have HF := Lib.hid (show Sl.fsOk l i = false ∧ Sl.fsV l i = 0 from by simp [Sl.fsOk, Sl.fsV, Sl.gI, h0])
      rw [hg] at c1
      rw [h0] at d0
      clear hg h0 c3
      go_enter Try.func22, Try.ntmps22
      go_wp2_with fail
      refine c1.mono ?_; rintro q_ w1 ⟨rfl, b1⟩
      go_wp2_with fail
      refine (d0 _).mono ?_; rintro q_ w' ⟨rfl, rfl⟩
      go_wp2_with fail
      go_ret2
      exact ⟨by rw [HF.out.1, HF.out.2]; rfl, b1⟩
    · rw [hg] at c1
      rw [h0] at d0
      rcases find_cases (Sl.has i) l with ⟨hf, _⟩ | ⟨k, s, hf, hk, hs, hp⟩
      · change Sl.ix l i = -1 at hf
        have HF := Lib.hid (show Sl.fsOk l i = false ∧ Sl.fsV l i = 0 from by simp [Sl.fsOk, Sl.fsV, hf])
        rw [hf] at c3
        clear hg h0 hf
        go_enter Try.func22, Try.ntmps22
        go_wp2_with fail
        refine c1.mono ?_; rintro q_ w1 ⟨rfl, b1⟩
        go_wp2_with fail
        refine (d0 _).mono ?_; rintro q_ w' ⟨rfl, rfl⟩
        go_wp2_with fail
        refine (c3 _ b1).mono ?_; rintro q_ w3 ⟨rfl, b3⟩
        go_wp2_with fail
        go_ret2
        exact ⟨by rw [HF.out.1, HF.out.2]; rfl, b1.trans (b3.mono b1.size)⟩
      · change Sl.ix l i = k at hf
        have HF := Lib.hid (show Sl.fsOk l i = true ∧ Sl.fsV l i = k from by simp [Sl.fsOk, Sl.fsV, hf, Sl.gI, hg, h0])
        rw [hf] at c3
        clear hg h0 hf hs hp
        go_enter Try.func22, Try.ntmps22
        go_wp2_with fail
        refine c1.mono ?_; rintro q_ w1 ⟨rfl, b1⟩
        go_wp2_with fail
        refine (d0 _).mono ?_; rintro q_ w' ⟨rfl, rfl⟩
        go_wp2_with fail
        refine (c3 _ b1).mono ?_; rintro q_ w3 ⟨rfl, b3⟩
        replace b1 := b1.trans (b3.mono b1.size)
        clear b3
        go_wp2_with fail
        refine (c3 _ b1).mono ?_; rintro q_ w4 ⟨rfl, b4⟩
        go_wp2_with fail
        go_ret2
        exact ⟨by rw [HF.out.1, HF.out.2]; rfl, b1.trans (b4.mono b1.size)⟩
set_option maxHeartbeats 1000000 in
theorem specEmptySlots_any (v : Value) (l : List Sl) (w : World) {lo hi : Nat} (h : Rd Sl.cells 3 w lo hi v l) (hh : hi ≤ w.heap.size) :
    Calls Try.prog 16 #[v] w fun r w' => r = .returned (.tuple #[.int .i64 (Sl.emp l), .bool (Sl.good l)]) ∧ Below w.heap.size w w' := by
  have c1 := l8Good_any v l w h hh
  have hrd := h
  obtain ⟨A, n, c, rfl, H, hc, hm⟩ := h.form
  cases hg : Sl.good l
  · have HF := Lib.hid (show Sl.emp l = 0 from by simp [Sl.emp, hg])
    rw [hg] at c1
    clear hg
    go_enter Try.func16, Try.ntmps16
    go_wp2_with fail
    refine c1.mono ?_; rintro q_ w1 ⟨rfl, b1⟩
    go_wp2_with fail
    go_ret2
    exact ⟨by rw [HF.out]; rfl, b1⟩
  · have HF := Lib.hid (show Sl.emp l = (l.countP Sl.free : Nat) from by simp [Sl.emp, hg])
    have hn4 : n ≤ 4 := by rw [H.out, Sl.good_len hg]; decide
    rw [hg] at c1
    clear hg
    go_enter Try.func16, Try.ntmps16
    go_wp2_with fail
    refine c1.mono ?_; rintro q_ w1 ⟨rfl, b1⟩
    go_wp2_with fail
    go_loopw [4, 5] (fun q i wr => ∃ k : Nat, k ≤ n ∧ i = .int .i64 k ∧ q = .int .i64 ((l.take k).countP Sl.free) ∧ Below w.heap.size w wr) (fun _ i _ => n - (intOf i).toNat)
    case atStart => exact ⟨0, Nat.zero_le _, rfl, rfl, b1⟩
    case round =>
      clear b1 c1
      obtain ⟨k, hk, rfl, rfl, hb⟩ := hrel
      have hq1 : (l.take k).countP Sl.free ≤ k := Nat.le_trans List.countP_le_length (by rw [List.length_take]; omega)
      by_cases hlt : k < n
      · obtain ⟨b, off, s, rfl, hs, _, hbl, f0, f1, f2⟩ := Sl.get hrd hlt hb hh
        have hb2 := hb
        have hN : (l.take (k + 1)).countP Sl.free = (l.take k).countP Sl.free + if Sl.free s = true then 1 else 0 := by
          rw [List.take_add_one, hs.out, List.countP_append]; simp
        generalize (l.take k).countP Sl.free = q at hN hq1 ⊢
        by_cases h0 : s.state = 0
        · have HQ := Lib.hid (show (l.take (k + 1)).countP Sl.free = q + 1 from by rw [hN]; simp [Sl.free, h0])
          rw [h0] at f0
          clear hN h0
          go_wp2_with fail
          go_roundw
          case rel => exact ⟨k + 1, by omega, by go_num, by rw [HQ.out]; simp, hb2⟩
          case measure => simp [intOf]; omega
        · have HQ := Lib.hid (show (l.take (k + 1)).countP Sl.free = q from by rw [hN]; simp [Sl.free, h0])
          clear hN
          go_wp2_with fail
          go_roundw
          case rel => exact ⟨k + 1, by omega, by go_num, by rw [HQ.out], hb2⟩
          case measure => simp [intOf]; omega
      · have hkn : l.take k = l := List.take_of_length_le (by rw [← H.out]; omega)
        have HK := Lib.hid hkn
        clear hkn
        go_wp2_with fail
        go_ret2
        exact ⟨by rw [HF.out, HK.out]; rfl, hb⟩
set_option maxHeartbeats 1000000 in
theorem specEndSlot_any (v : Value) (l : List Sl) (i : Int) (w : World) {lo hi : Nat} (h : Rd Sl.cells 3 w lo hi v l) (hh : hi ≤ w.heap.size) :
    Calls Try.prog 7 #[v, .int .i64 i] w fun r w' => ∃ v', r = .returned (.tuple #[v', .bool (Sl.eOk l i)]) ∧ Rd Sl.cells 3 w' 0 w'.heap.size v' (Sl.eR l i) ∧ Below w.heap.size w w' := by
  have c1 := l8Good_any v l w h hh
  have d0 := fun W => l6Irq_any i W
  have c3 := fun (W : World) (kb : Below w.heap.size w W) (hg : Sl.good l = true) => specEnd_in v l i W (h.below kb hh) (Nat.le_trans hh kb.size) hg
  obtain ⟨A, n, c, rfl, H, hc, hm⟩ := h.form
  cases hg : Sl.good l
  · have HF := Lib.hid (show (Sl.eOk l i) = false ∧ (Sl.eR l i) = [] from by simp [Sl.eOk, Sl.eR, Sl.gI, hg])
    rw [hg] at c1
    clear hg c3
    go_enter Try.func7, Try.ntmps7
    go_wp2_with fail
    refine c1.mono ?_; rintro q_ w1 ⟨rfl, b1⟩
    go_wp2_with fail
    go_ret2
    exact ⟨_, by rw [HF.out.1]; rfl, by rw [HF.out.2]; exact Rd.empty (by decide), b1.alloc b1.size _⟩
  · cases h0 : inB i 0 7
    · have HF := Lib.hid (show (Sl.eOk l i) = false ∧ (Sl.eR l i) = [] from by simp [Sl.eOk, Sl.eR, Sl.gI, h0])
      rw [hg] at c1
      rw [h0] at d0
      clear hg c3 h0
      go_enter Try.func7, Try.ntmps7
      go_wp2_with fail
      refine c1.mono ?_; rintro q_ w1 ⟨rfl, b1⟩
      go_wp2_with fail
      refine (d0 _).mono ?_; rintro q_ w' ⟨rfl, rfl⟩
      go_wp2_with fail
      go_ret2
      exact ⟨_, by rw [HF.out.1]; rfl, by rw [HF.out.2]; exact Rd.empty (by decide), b1.alloc b1.size _⟩
    · have HF := Lib.hid (show (Sl.eOk l i) = (Sl.endOk l i) ∧ (Sl.eR l i) = (Sl.endR l i) from by simp [Sl.eOk, Sl.eR, Sl.gI, hg, h0])
      have c3 := fun W kb => c3 W kb hg
      rw [hg] at c1
      rw [h0] at d0
      clear hg h0
      go_enter Try.func7, Try.ntmps7
      go_wp2_with fail
      refine c1.mono ?_; rintro q_ w1 ⟨rfl, b1⟩
      go_wp2_with fail
      refine (d0 _).mono ?_; rintro q_ w' ⟨rfl, rfl⟩
      go_wp2_with fail
      refine (c3 _ b1).mono ?_; rintro q_ w3 ⟨v', rfl, o1, b3⟩
      have z3 := b1.size
      go_wp2_with fail
      go_ret2
      exact ⟨v', by rw [HF.out.1]; rfl, by rw [HF.out.2]; exact o1.rd.mono (Nat.zero_le _) (Nat.le_refl _), b1.trans (b3.mono z3)⟩
set_option maxHeartbeats 1000000 in
theorem implFindSlot_any (v : Value) (l : List Sl) (i : Int) (w : World) {lo hi : Nat} (h : Rd Sl.cells 3 w lo hi v l) (hh : hi ≤ w.heap.size) :
    Calls Try.prog 9 #[v, .int .i64 i] w fun r w' => r = .returned (.tuple #[.int .i64 (Sl.fsV l i), .bool (Sl.fsOk l i)]) ∧ Below w.heap.size w w' := by
  have c1 := implAreSlots_any v l w h hh
  have d0 := fun W => isIrq_any i W
  have c3 := fun (W : World) (kb : Below w.heap.size w W) => implFind_b v l i W (h.below kb hh) (Nat.le_trans hh kb.size)
  obtain ⟨A, n, c, rfl, H, hc, hm⟩ := h.form
  cases hg : Sl.good l
  · have HF := Lib.hid (show Sl.fsOk l i = false ∧ Sl.fsV l i = 0 from by simp [Sl.fsOk, Sl.fsV, Sl.gI, hg])
    rw [hg] at c1
    clear hg c3
    go_enter Try.func9, Try.ntmps9
    go_wp2_with fail
    refine c1.mono ?_; rintro q_ w1 ⟨rfl, b1⟩
    go_wp2_with fail
    go_ret2
    exact ⟨by rw [HF.out.1, HF.out.2]; rfl, b1⟩
  · cases h0 : inB i 0 7
    · have HF := Lib.hid (show Sl.fsOk l i = false ∧ Sl.fsV l i = 0 from by simp [Sl.fsOk, Sl.fsV, Sl.gI, h0])
      rw [hg] at c1
      rw [h0] at d0
      clear hg h0 c3
      go_enter Try.func9, Try.ntmps9
      go_wp2_with fail
      refine c1.mono ?_; rintro q_ w1 ⟨rfl, b1⟩
      go_wp2_with fail
      refine (d0 _).mono ?_; rintro q_ w' ⟨rfl, rfl⟩
      go_wp2_with fail
      go_ret2
      exact ⟨by rw [HF.out.1, HF.out.2]; rfl, b1⟩
    · rw [hg] at c1
      rw [h0] at d0
      rcases find_cases (Sl.has i) l with ⟨hf, _⟩ | ⟨k, s, hf, hk, hs, hp⟩
      · change Sl.ix l i = -1 at hf
        have HF := Lib.hid (show Sl.fsOk l i = false ∧ Sl.fsV l i = 0 from by simp [Sl.fsOk, Sl.fsV, hf])
        rw [hf] at c3
        clear hg h0 hf
        go_enter Try.func9, Try.ntmps9
        go_wp2_with fail
        refine c1.mono ?_; rintro q_ w1 ⟨rfl, b1⟩
        go_wp2_with fail
        refine (d0 _).mono ?_; rintro q_ w' ⟨rfl, rfl⟩
        go_wp2_with fail
        refine (c3 _ b1).mono ?_; rintro q_ w3 ⟨rfl, b3⟩
        go_wp2_with fail
        go_ret2
        exact ⟨by rw [HF.out.1, HF.out.2]; rfl, b1.trans (b3.mono b1.size)⟩
      · change Sl.ix l i = k at hf
        have HF := Lib.hid (show Sl.fsOk l i = true ∧ Sl.fsV l i = k from by simp [Sl.fsOk, Sl.fsV, hf, Sl.gI, hg, h0])
        rw [hf] at c3
        clear hg h0 hf hs hp
        go_enter Try.func9, Try.ntmps9
        go_wp2_with fail
        refine c1.mono ?_; rintro q_ w1 ⟨rfl, b1⟩
        go_wp2_with fail
        refine (d0 _).mono ?_; rintro q_ w' ⟨rfl, rfl⟩
        go_wp2_with fail
        refine (c3 _ b1).mono ?_; rintro q_ w3 ⟨rfl, b3⟩
        replace b1 := b1.trans (b3.mono b1.size)
        clear b3
        go_wp2_with fail
        refine (c3 _ b1).mono ?_; rintro q_ w4 ⟨rfl, b4⟩
        go_wp2_with fail
        go_ret2
        exact ⟨by rw [HF.out.1, HF.out.2]; rfl, b1.trans (b4.mono b1.size)⟩
set_option maxHeartbeats 1000000 in
theorem implEmptySlots_any (v : Value) (l : List Sl) (w : World) {lo hi : Nat} (h : Rd Sl.cells 3 w lo hi v l) (hh : hi ≤ w.heap.size) :
    Calls Try.prog 14 #[v] w fun r w' => r = .returned (.tuple #[.int .i64 (Sl.emp l), .bool (Sl.good l)]) ∧ Below w.heap.size w w' := by
  have c1 := implAreSlots_any v l w h hh
  have hrd := h
  obtain ⟨A, n, c, rfl, H, hc, hm⟩ := h.form
  cases hg : Sl.good l
  · have HF := Lib.hid (show Sl.emp l = 0 from by simp [Sl.emp, hg])
    rw [hg] at c1
    clear hg
    go_enter Try.func14, Try.ntmps14
    go_wp2_with fail
    refine c1.mono ?_; rintro q_ w1 ⟨rfl, b1⟩
    go_wp2_with fail
    go_ret2
    exact ⟨by rw [HF.out]; rfl, b1⟩
  · have HF := Lib.hid (show Sl.emp l = (l.countP Sl.free : Nat) from by simp [Sl.emp, hg])
    have hn4 : n ≤ 4 := by rw [H.out, Sl.good_len hg]; decide
    rw [hg] at c1
    clear hg
    go_enter Try.func14, Try.ntmps14
    go_wp2_with fail
    refine c1.mono ?_; rintro q_ w1 ⟨rfl, b1⟩
    go_wp2_with fail
    go_loopw [4, 12] (fun q i wr => ∃ k : Nat, k ≤ n ∧ i = .int .i64 k ∧ q = .int .i64 ((l.take k).countP Sl.free) ∧ Below w.heap.size w wr) (fun _ i _ => n - (intOf i).toNat)
    case atStart => exact ⟨0, Nat.zero_le _, rfl, rfl, b1⟩
    case round =>
      clear b1 c1
      obtain ⟨k, hk, rfl, rfl, hb⟩ := hrel
      have hq1 : (l.take k).countP Sl.free ≤ k := Nat.le_trans List.countP_le_length (by rw [List.length_take]; omega)
      by_cases hlt : k < n
      · obtain ⟨b, off, s, rfl, hs, _, hbl, f0, f1, f2⟩ := Sl.get hrd hlt hb hh
        have hb2 := hb.alloc hb.size (.cells #[.int .i64 s.state, .int .i64 s.irq, .int .i64 s.prio] 33)
        have hN : (l.take (k + 1)).countP Sl.free = (l.take k).countP Sl.free + if Sl.free s = true then 1 else 0 := by
          rw [List.take_add_one, hs.out, List.countP_append]; simp
        generalize (l.take k).countP Sl.free = q at hN hq1 ⊢
        by_cases h0 : s.state = 0
        · have HQ := Lib.hid (show (l.take (k + 1)).countP Sl.free = q + 1 from by rw [hN]; simp [Sl.free, h0])
          rw [h0] at f0 hb2
          clear hN h0
          go_wp2_with fail
          go_roundw
          case rel => exact ⟨k + 1, by omega, by go_num, by rw [HQ.out]; simp, hb2⟩
          case measure => simp [intOf]; omega
        · have HQ := Lib.hid (show (l.take (k + 1)).countP Sl.free = q from by rw [hN]; simp [Sl.free, h0])
          clear hN
          go_wp2_with fail
          go_roundw
          case rel => exact ⟨k + 1, by omega, by go_num, by rw [HQ.out], hb2⟩
          case measure => simp [intOf]; omega
      · have hkn : l.take k = l := List.take_of_length_le (by rw [← H.out]; omega)
        have HK := Lib.hid hkn
        clear hkn
        go_wp2_with fail
        go_ret2
        exact ⟨by rw [HF.out, HK.out]; rfl, hb⟩
set_option maxHeartbeats 1000000 in
theorem implPutIrq_any (v : Value) (l : List Sl) (i p : Int) (w : World) {lo hi : Nat} (h : Rd Sl.cells 3 w lo hi v l) (hh : hi ≤ w.heap.size) :
    Calls Try.prog 13 #[v, .int .i64 i, .int .i64 p] w fun r w' => ∃ v', r = .returned (.tuple #[v', .bool (Sl.pOk l i p)]) ∧ Ow Sl.cells 3 33 w' w.heap.size w'.heap.size v' (Sl.pR l i p) ∧ (Sl.pR l i p).length ≤ 1048576 ∧ Below w.heap.size w w' := by
  have hlen := Sl.pR_len l i p
  have c1 := implAreSlots_any v l w h hh
  have d0 := fun W => isIrq_any i W
  have d1 := fun W => isPriority_any p W
  have c3 := fun (W : World) (kb : Below w.heap.size w W) (hg : Sl.good l = true) => implPut_in v l i p W (h.below kb hh) (Nat.le_trans hh kb.size) (by rw [Sl.good_len hg]; decide)
  obtain ⟨A, n, c, rfl, H, hc, hm⟩ := h.form
  cases hg : Sl.good l
  · have HF := Lib.hid (show (Sl.pOk l i p) = false ∧ (Sl.pR l i p) = [] from by simp [Sl.pOk, Sl.pR, Sl.gIP, hg])
    rw [hg] at c1
    clear hg c3
    go_enter Try.func13, Try.ntmps13
    go_wp2_with fail
    refine c1.mono ?_; rintro q_ w1 ⟨rfl, b1⟩
    go_wp2_with fail
    go_ret2
    exact ⟨_, by rw [HF.out.1]; rfl, by rw [HF.out.2]; exact Ow.nil_, hlen, b1⟩
  · cases h0 : inB i 0 7
    · have HF := Lib.hid (show (Sl.pOk l i p) = false ∧ (Sl.pR l i p) = [] from by simp [Sl.pOk, Sl.pR, Sl.gIP, h0])
      rw [hg] at c1
      rw [h0] at d0
      clear hg c3 h0
      go_enter Try.func13, Try.ntmps13
      go_wp2_with fail
      refine c1.mono ?_; rintro q_ w1 ⟨rfl, b1⟩
      go_wp2_with fail
      refine (d0 _).mono ?_; rintro q_ w' ⟨rfl, rfl⟩
      go_wp2_with fail
      go_ret2
      exact ⟨_, by rw [HF.out.1]; rfl, by rw [HF.out.2]; exact Ow.nil_, hlen, b1⟩
    · cases h1 : inB p 0 15
      · have HF := Lib.hid (show (Sl.pOk l i p) = false ∧ (Sl.pR l i p) = [] from by simp [Sl.pOk, Sl.pR, Sl.gIP, h1])
        rw [hg] at c1
        rw [h0] at d0
        rw [h1] at d1
        clear hg c3 h0 h1
        go_enter Try.func13, Try.ntmps13
        go_wp2_with fail
        refine c1.mono ?_; rintro q_ w1 ⟨rfl, b1⟩
        go_wp2_with fail
        refine (d0 _).mono ?_; rintro q_ w' ⟨rfl, rfl⟩
        go_wp2_with fail
        refine (d1 _).mono ?_; rintro q_ w' ⟨rfl, rfl⟩
        go_wp2_with fail
        go_ret2
        exact ⟨_, by rw [HF.out.1]; rfl, by rw [HF.out.2]; exact Ow.nil_, hlen, b1⟩
      · have HF := Lib.hid (show (Sl.pOk l i p) = (Sl.putOk l i) ∧ (Sl.pR l i p) = (Sl.putR l i p) from by simp [Sl.pOk, Sl.pR, Sl.gIP, hg, h0, h1])
        have c3 := fun W kb => c3 W kb hg
        rw [hg] at c1
        rw [h0] at d0
        rw [h1] at d1
        clear hg h0 h1
        go_enter Try.func13, Try.ntmps13
        go_wp2_with fail
        refine c1.mono ?_; rintro q_ w1 ⟨rfl, b1⟩
        go_wp2_with fail
        refine (d0 _).mono ?_; rintro q_ w' ⟨rfl, rfl⟩
        go_wp2_with fail
        refine (d1 _).mono ?_; rintro q_ w' ⟨rfl, rfl⟩
        go_wp2_with fail
        refine (c3 _ b1).mono ?_; rintro q_ w3 ⟨v', rfl, o1, b3⟩
        have z3 := b1.size
        go_wp2_with fail
        go_ret2
        exact ⟨v', by rw [HF.out.1]; rfl, by rw [HF.out.2]; exact o1.mono z3 (Nat.le_refl _), hlen, b1.trans (b3.mono z3)⟩
set_option maxHeartbeats 1000000 in
theorem implEndSlot_any (v : Value) (l : List Sl) (i : Int) (w : World) {lo hi : Nat} (h : Rd Sl.cells 3 w lo hi v l) (hh : hi ≤ w.heap.size) :
    Calls Try.prog 6 #[v, .int .i64 i] w fun r w' => ∃ v', r = .returned (.tuple #[v', .bool (Sl.eOk l i)]) ∧ Ow Sl.cells 3 33 w' w.heap.size w'.heap.size v' (Sl.eR l i) ∧ (Sl.eR l i).length ≤ 1048576 ∧ Below w.heap.size w w' := by
  have hlen := Sl.eR_len l i
  have c1 := implAreSlots_any v l w h hh
  have d0 := fun W => isIrq_any i W
  have c3 := fun (W : World) (kb : Below w.heap.size w W) (hg : Sl.good l = true) => implEnd_in v l i W (h.below kb hh) (Nat.le_trans hh kb.size) hg
  obtain ⟨A, n, c, rfl, H, hc, hm⟩ := h.form
  cases hg : Sl.good l
  · have HF := Lib.hid (show (Sl.eOk l i) = false ∧ (Sl.eR l i) = [] from by simp [Sl.eOk, Sl.eR, Sl.gI, hg])
    rw [hg] at c1
    clear hg c3
    go_enter Try.func6, Try.ntmps6
    go_wp2_with fail
    refine c1.mono ?_; rintro q_ w1 ⟨rfl, b1⟩
    go_wp2_with fail
    go_ret2
    exact ⟨_, by rw [HF.out.1]; rfl, by rw [HF.out.2]; exact Ow.nil_, hlen, b1⟩
  · cases h0 : inB i 0 7
    · have HF := Lib.hid (show (Sl.eOk l i) = false ∧ (Sl.eR l i) = [] from by simp [Sl.eOk, Sl.eR, Sl.gI, h0])
      rw [hg] at c1
      rw [h0] at d0
      clear hg c3 h0
      go_enter Try.func6, Try.ntmps6
      go_wp2_with fail
      refine c1.mono ?_; rintro q_ w1 ⟨rfl, b1⟩
      go_wp2_with fail
      refine (d0 _).mono ?_; rintro q_ w' ⟨rfl, rfl⟩
      go_wp2_with fail
      go_ret2
      exact ⟨_, by rw [HF.out.1]; rfl, by rw [HF.out.2]; exact Ow.nil_, hlen, b1⟩
    · have HF := Lib.hid (show (Sl.eOk l i) = (Sl.endOk l i) ∧ (Sl.eR l i) = (Sl.endR l i) from by simp [Sl.eOk, Sl.eR, Sl.gI, hg, h0])
      have c3 := fun W kb => c3 W kb hg
      rw [hg] at c1
      rw [h0] at d0
      clear hg h0
      go_enter Try.func6, Try.ntmps6
      go_wp2_with fail
      refine c1.mono ?_; rintro q_ w1 ⟨rfl, b1⟩
      go_wp2_with fail
      refine (d0 _).mono ?_; rintro q_ w' ⟨rfl, rfl⟩
      go_wp2_with fail
      refine (c3 _ b1).mono ?_; rintro q_ w3 ⟨v', rfl, o1, b3⟩
      have z3 := b1.size
      go_wp2_with fail
      go_ret2
      exact ⟨v', by rw [HF.out.1]; rfl, by rw [HF.out.2]; exact o1.mono z3 (Nat.le_refl _), hlen, b1.trans (b3.mono z3)⟩

end Go.Proofs.Ytaggjadgbmmjoaa
