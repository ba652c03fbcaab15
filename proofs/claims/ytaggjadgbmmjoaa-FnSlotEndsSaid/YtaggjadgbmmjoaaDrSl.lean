/- The reference's draw of slots: it returns something, in new memory. Condition: at most 100000 reads before. -/
import Derived.Test.YtaggjadgbmmjoaaDrNum
import Derived.Test.YtaggjadgbmmjoaaOwApp
import Derived.Test.YtaggjadgbmmjoaaDrSlA
namespace Go.Proofs.Ytaggjadgbmmjoaa
open Go.RowKit Go.ChangeShapes Go.WideShapes Go.Deep

theorem grown_below {w w' : World} (h : Below w.heap.size w w') : w.grownBy w' none := ⟨h.os, h.tape, h.output, h.size, fun k hk _ => h.block k hk⟩
theorem lit_slots (w : World) : Ow Sl.cells 3 33 (w.alloc (.cells #[.int .i64 0, .int .i64 0, .int .i64 0, .int .i64 0, .int .i64 0, .int .i64 0, .int .i64 0, .int .i64 0, .int .i64 0, .int .i64 0, .int .i64 0, .int .i64 0] 33)) w.heap.size (w.heap.size + 1) (.slice (some ⟨w.heap.size, 0, none⟩) 4 4) [⟨0, 0, 0⟩, ⟨0, 0, 0⟩, ⟨0, 0, 0⟩, ⟨0, 0, 0⟩] := by
  refine ⟨_, 4, rfl, Nat.le_refl _, by unfold maxLen; omega, fun _ => ⟨w.heap.size, 0, _, rfl, Nat.le_refl _, by omega, heap_alloc_new w _, by simp, fun k x hx j u hu => ?_⟩⟩
  rcases k with _ | _ | _ | _ | k <;> simp at hx <;> subst hx <;> rcases j with _ | _ | _ | j <;> simp [Sl.cells] at hu ⊢ <;> exact hu
theorem among_in (g k : Nat) (cv nv : Value) (l : List UInt8) (ns : List Int) (w : World) {lo hi lo2 hi2 : Nat} (h : Rd By.cells 1 w lo hi cv l) (hh : hi ≤ w.heap.size) (hg : g < lo ∨ hi ≤ g) (h2 : Rd Nm.cells 1 w lo2 hi2 nv ns) (hh2 : hi2 ≤ w.heap.size) (hg2 : g < lo2 ∨ hi2 ≤ g) (hn0 : 0 < ns.length) (hn1 : ns.length ≤ 1000000) (hc : Cur w g cv k) (hk : k ≤ 900000) :
    Calls Try.prog 46 #[.pointer (some ⟨g, 0, none⟩), nv] w fun e w' => ∃ x : Int, e = .returned (.int .i64 x) ∧ Hid (x ∈ ns) ∧ w.grownBy w' (some g) ∧ Cur w' g cv (k + 2) := by
  obtain ⟨A, n, c, rfl, H, hnc, hm⟩ := h2.form
  have hnl : n = ns.length := H.out
  have hn2 : 0 < n := by omega
  have hn3 : n ≤ 1000000 := by omega
  clear hnl
  have c1 := pick_any g k cv l n w h hh hg hc hk (by omega)
  go_enter Try.func46, Try.ntmps46
  go_wp2_with fail
  refine c1.mono ?_; rintro q_ w1 ⟨x, rfl, hx0, hx1, g1, k1⟩
  have hxn : x < (n : Int) := by omega
  obtain ⟨j, rfl⟩ : ∃ j : Nat, x = j := ⟨x.toNat, by omega⟩
  have hjn : j < n := by omega
  clear hx1
  have h3 := h2.grown g1 hh2 (fun q e => by injection e with e; omega)
  obtain ⟨b, off, y, rfl, hyy, _, _, f0⟩ := Nm.get h3 hjn (Below.refl w1.heap.size w1) (Nat.le_trans hh2 g1.size)
  go_wp2_with fail
  go_ret
  exact ⟨y, rfl, Lib.hid (List.mem_of_getElem? hyy.out), g1, k1⟩
theorem Sl.app_ow {w : World} {ops : Array Oper} {rest : List Oper} {o : Oper} {a : Act} {Q : Exit → Act → World → Prop} (hgd : o.guard = none) (s x : Operand)
    (ho : o.op = .call { callee := .builtin .append, args := #[s, x], argTypes := #[24, 24] }) {lo hi n c : Nat} {A : Option Addr} {l : List Sl} (hs : a.eval s = .slice A n c) (h : Ow Sl.cells 3 33 w lo hi (.slice A n c) l)
    (g cx : Nat) (y : Sl) (hx : a.eval x = .slice (some ⟨g, 0, none⟩) 1 cx) (hr : ∀ j u, (Sl.cells y)[j]? = some u → w.cell? ⟨g, j, none⟩ = some u) (hlen : n ≤ 4194304) (hlo : lo ≤ w.heap.size) (hhi : hi ≤ w.heap.size)
    (hk : ∀ v' w' row, Ow Sl.cells 3 33 w' lo w'.heap.size v' (l ++ [y]) → w.grownBy w' row → (∀ q, row = some q → lo ≤ q ∧ q < hi) → wpList Try.prog ops Q rest (a.put o.dst v') w') : wpList Try.prog ops Q (o :: rest) a w := by
  obtain ⟨i0, hi0, hz0, hz1, hz2⟩ := info_parts Sl.info
  exact wp_app_ow hgd s x _ ho _ i0 _ 3 _ Try.underlying24 hi0 hz0 hz1 hz2 rfl (by omega) Sl.cells_len Sl.one hs h g cx y hx hr (by unfold maxLen; omega) (by omega) hlo hhi hk
theorem Ow.wide {α : Type} {cells : α → List Value} {sz : Nat} {E : TypeId} {w w' : World} {lo hi : Nat} {v : Value} {l : List α} (h : Ow cells sz E w lo hi v l) (hl : w.heap.size ≤ w'.heap.size) (hh : hi ≤ w.heap.size) (k : Ow cells sz E w lo hi v l → Ow cells sz E w' lo hi v l) : Ow cells sz E w' lo w'.heap.size v l := (k h).mono (Nat.le_refl _) (Nat.le_trans hh hl)

set_option maxRecDepth 8000 in
set_option maxHeartbeats 8000000 in
theorem slots_any (g k : Nat) (cv : Value) (l : List UInt8) (w : World) {lo hi : Nat} (h : Rd By.cells 1 w lo hi cv l) (hh : hi ≤ w.heap.size) (hg : g < lo ∨ hi ≤ g) (hc : Cur w g cv k) (hk : k ≤ 100000) :
    Calls Try.prog 23 #[.pointer (some ⟨g, 0, none⟩)] w fun e w' => ∃ v, ∃ ls : List Sl, e = .returned v ∧ ls.length ≤ 5 ∧ Sl.dis ls ∧ Ow Sl.cells 3 33 w' w.heap.size w'.heap.size v ls ∧ w.grownBy w' (some g) ∧ Cur w' g cv (k + 120) := by
  have hgl := hc.lt
  have hG := World.grownBy.refl w (some g)
  go_enter Try.func23, Try.ntmps23
  have o0 := lit_slots w
  have ga0 := grown_alloc w (.cells #[.int .i64 0, .int .i64 0, .int .i64 0, .int .i64 0, .int .i64 0, .int .i64 0, .int .i64 0, .int .i64 0, .int .i64 0, .int .i64 0, .int .i64 0, .int .i64 0] 33)
  have za0 : (w.alloc (.cells #[.int .i64 0, .int .i64 0, .int .i64 0, .int .i64 0, .int .i64 0, .int .i64 0, .int .i64 0, .int .i64 0, .int .i64 0, .int .i64 0, .int .i64 0, .int .i64 0] 33)).heap.size = w.heap.size + 1 := by simp
  have hg0 := Lib.hid Sl.good4
  go_wp2_with fail
  replace hc := hc.grown0 ga0
  replace h := h.grown ga0 (by omega) (fun q e => by cases e)
  replace hG := grown_trans hG (grown_weaken ga0)
  have z_1 := ga0.size
  clear ga0
  generalize w.alloc _ = wA at *
  generalize hK : w.heap.size = K at *
  have hK1 : K ≤ w.heap.size := by omega
  have hK2 : w.heap.size ≤ K := by omega
  clear hK
  refine (pick_any g _ _ l 9 wA h (by omega) hg hc (by omega) (by omega)).mono ?_; rintro q_ w2 ⟨x1, rfl, x1_0, x1_1, gg2, kk2⟩
  clear hc
  replace h := h.grown gg2 (by omega) (fun q e => by injection e with e; omega)
  replace o0 := o0.apart gg2 (fun q e => by injection e with e; omega)
  replace hG := grown_trans hG gg2
  have z_3 := gg2.size
  clear gg2
  obtain ⟨m, rfl⟩ : ∃ m : Nat, x1 = m := ⟨x1.toNat, by omega⟩
  have hm9 : m < 9 := by omega
  clear x1_0 x1_1
  go_wp2_with fail
  go_loopw [3, 4] (fun v3 v4 wr => ∃ (i q : Nat) (ls : List Sl), i + q = m ∧ v4 = .int .i64 q ∧ Hid (Sl.good ls = true) ∧ w.grownBy wr (some g) ∧ Cur wr g cv (k + 2 + 8 * i) ∧ K ≤ wr.heap.size ∧ Rd By.cells 1 wr lo hi cv l ∧ Ow Sl.cells 3 33 wr K wr.heap.size v3 ls) (fun _ v4 _ => (intOf v4).toNat)
  case atStart => exact ⟨0, m, _, by omega, rfl, hg0, hG, kk2.mono (by omega), by omega, h, o0.mono (Nat.le_refl _) (by omega)⟩
  case round =>
    clear kk2 hG h o0 hg0
    obtain ⟨i, q, ls, hiq, rfl, HGd, hG, hc, zw, h, o1⟩ := hrel
    rcases Nat.eq_zero_or_pos q with hq | hq
    rotate_left
    · obtain ⟨p, rfl⟩ : ∃ p, q = p + 1 := ⟨q - 1, by omega⟩
      have hqd : decide ((0 : Int) < ((p + 1 : Nat) : Int)) = true := decide_eq_true (by omega)
      go_wp2_with fail
      refine (pick_any g _ _ l 4 wr h (by omega) hg hc (by omega) (by omega)).mono ?_; rintro q_ w101 ⟨y1, rfl, y1_0, y1_1, gg101, kk101⟩
      clear hc
      replace h := h.grown gg101 (by omega) (fun q e => by injection e with e; omega)
      replace o1 := o1.apart gg101 (fun q e => by injection e with e; omega)
      replace hG := grown_trans hG gg101
      have z_102 := gg101.size
      clear gg101
      rcases (show y1 = 0 ∨ y1 = 1 ∨ y1 = 2 ∨ y1 = 3 by omega) with rfl | rfl | rfl | rfl
      all_goals clear y1_0 y1_1
      · go_wp2_with fail
        refine (pick_any g _ _ l 8 w101 h (by omega) hg kk101 (by omega) (by omega)).mono ?_; rintro q_ w103 ⟨y2, rfl, y2_0, y2_1, gg103, kk103⟩
        clear kk101
        replace h := h.grown gg103 (by omega) (fun q e => by injection e with e; omega)
        replace o1 := o1.apart gg103 (fun q e => by injection e with e; omega)
        replace hG := grown_trans hG gg103
        have z_104 := gg103.size
        clear gg103
        go_wp2_with fail
        refine (pick_any g _ _ l 8 w103 h (by omega) hg kk103 (by omega) (by omega)).mono ?_; rintro q_ w105 ⟨y3, rfl, y3_0, y3_1, gg105, kk105⟩
        clear kk103
        replace h := h.grown gg105 (by omega) (fun q e => by injection e with e; omega)
        replace o1 := o1.apart gg105 (fun q e => by injection e with e; omega)
        replace hG := grown_trans hG gg105
        have z_106 := gg105.size
        clear gg105
        go_wp2_with fail
        have cP := specPut_in _ ls y2 y3 w105 o1.rd (by omega) (by rw [Sl.good_len HGd.out]; decide)
        cases hk : Sl.putOk ls y2
        · rw [hk] at cP
          refine (cP).mono ?_; rintro q_ w107 ⟨u1, rfl, o2, bb107⟩
          have gb107 := grown_below bb107
          clear bb107
          replace kk105 := kk105.grown0 gb107
          replace h := h.grown gb107 (by omega) (fun q e => by cases e)
          replace o1 := o1.apart gb107 (fun q e => by cases e)
          replace hG := grown_trans hG (grown_weaken gb107)
          have z_108 := gb107.size
          clear gb107
          clear cP hk
          go_wp2_with fail
          go_roundw
          case rel => exact ⟨i + 1, p, ls, by omega, by go_num, HGd, hG, kk105.mono (by omega), by omega, h, o1.mono (Nat.le_refl _) (by omega)⟩
          case measure => simp [intOf]
        · rw [hk] at cP
          have HG2 := Lib.hid (Sl.good_put HGd.out (i := y2) (p := y3) (by omega) (by omega) hk)
          refine (cP).mono ?_; rintro q_ w107 ⟨u1, rfl, o2, bb107⟩
          have gb107 := grown_below bb107
          clear bb107
          replace kk105 := kk105.grown0 gb107
          replace h := h.grown gb107 (by omega) (fun q e => by cases e)
          replace o1 := o1.apart gb107 (fun q e => by cases e)
          replace hG := grown_trans hG (grown_weaken gb107)
          have z_108 := gb107.size
          clear gb107
          clear cP hk
          go_wp2_with fail
          go_roundw
          case rel => exact ⟨i + 1, p, _, by omega, by go_num, HG2, hG, kk105.mono (by omega), by omega, h, o2.mono (by omega) (by omega)⟩
          case measure => simp [intOf]
      · go_wp2_with fail
        refine (pick_any g _ _ l 8 w101 h (by omega) hg kk101 (by omega) (by omega)).mono ?_; rintro q_ w103 ⟨y2, rfl, y2_0, y2_1, gg103, kk103⟩
        clear kk101
        replace h := h.grown gg103 (by omega) (fun q e => by injection e with e; omega)
        replace o1 := o1.apart gg103 (fun q e => by injection e with e; omega)
        replace hG := grown_trans hG gg103
        have z_104 := gg103.size
        clear gg103
        go_wp2_with fail
        refine (pick_any g _ _ l 8 w103 h (by omega) hg kk103 (by omega) (by omega)).mono ?_; rintro q_ w105 ⟨y3, rfl, y3_0, y3_1, gg105, kk105⟩
        clear kk103
        replace h := h.grown gg105 (by omega) (fun q e => by injection e with e; omega)
        replace o1 := o1.apart gg105 (fun q e => by injection e with e; omega)
        replace hG := grown_trans hG gg105
        have z_106 := gg105.size
        clear gg105
        go_wp2_with fail
        have cP := specPut_in _ ls y2 y3 w105 o1.rd (by omega) (by rw [Sl.good_len HGd.out]; decide)
        cases hk : Sl.putOk ls y2
        · rw [hk] at cP
          refine (cP).mono ?_; rintro q_ w107 ⟨u1, rfl, o2, bb107⟩
          have gb107 := grown_below bb107
          clear bb107
          replace kk105 := kk105.grown0 gb107
          replace h := h.grown gb107 (by omega) (fun q e => by cases e)
          replace o1 := o1.apart gb107 (fun q e => by cases e)
          replace hG := grown_trans hG (grown_weaken gb107)
          have z_108 := gb107.size
          clear gb107
          clear cP hk
          go_wp2_with fail
          go_roundw
          case rel => exact ⟨i + 1, p, ls, by omega, by go_num, HGd, hG, kk105.mono (by omega), by omega, h, o1.mono (Nat.le_refl _) (by omega)⟩
          case measure => simp [intOf]
        · rw [hk] at cP
          have HG2 := Lib.hid (Sl.good_put HGd.out (i := y2) (p := y3) (by omega) (by omega) hk)
          refine (cP).mono ?_; rintro q_ w107 ⟨u1, rfl, o2, bb107⟩
          have gb107 := grown_below bb107
          clear bb107
          replace kk105 := kk105.grown0 gb107
          replace h := h.grown gb107 (by omega) (fun q e => by cases e)
          replace o1 := o1.apart gb107 (fun q e => by cases e)
          replace hG := grown_trans hG (grown_weaken gb107)
          have z_108 := gb107.size
          clear gb107
          clear cP hk
          go_wp2_with fail
          go_roundw
          case rel => exact ⟨i + 1, p, _, by omega, by go_num, HG2, hG, kk105.mono (by omega), by omega, h, o2.mono (by omega) (by omega)⟩
          case measure => simp [intOf]
      · go_wp2_with fail
        have cP := specTake_ow _ ls 16 w101 (o1.mono (Nat.le_refl _) (by omega)) (by omega) (Nat.le_refl _) HGd.out
        have HG2 := Lib.hid (Sl.good_tk HGd.out 16)
        refine (cP).mono ?_; rintro q_ w103 ⟨u1, rfl, o2, bb103⟩
        have gb103 := grown_below bb103
        clear bb103
        replace kk101 := kk101.grown0 gb103
        replace h := h.grown gb103 (by omega) (fun q e => by cases e)
        replace o1 := o1.apart gb103 (fun q e => by cases e)
        replace hG := grown_trans hG (grown_weaken gb103)
        have z_104 := gb103.size
        clear gb103
        clear cP
        go_wp2_with fail
        go_roundw
        case rel => exact ⟨i + 1, p, _, by omega, by go_num, HG2, hG, kk101.mono (by omega), by omega, h, o2.mono (by omega) (by omega)⟩
        case measure => simp [intOf]
      · go_wp2_with fail
        refine (pick_any g _ _ l 8 w101 h (by omega) hg kk101 (by omega) (by omega)).mono ?_; rintro q_ w103 ⟨y2, rfl, y2_0, y2_1, gg103, kk103⟩
        clear kk101
        replace h := h.grown gg103 (by omega) (fun q e => by injection e with e; omega)
        replace o1 := o1.apart gg103 (fun q e => by injection e with e; omega)
        replace hG := grown_trans hG gg103
        have z_104 := gg103.size
        clear gg103
        go_wp2_with fail
        have cP := specEnd_in _ ls y2 w103 o1.rd (by omega) HGd.out
        cases hk : Sl.endOk ls y2
        · rw [hk] at cP
          refine (cP).mono ?_; rintro q_ w105 ⟨u1, rfl, o2, bb105⟩
          have gb105 := grown_below bb105
          clear bb105
          replace kk103 := kk103.grown0 gb105
          replace h := h.grown gb105 (by omega) (fun q e => by cases e)
          replace o1 := o1.apart gb105 (fun q e => by cases e)
          replace hG := grown_trans hG (grown_weaken gb105)
          have z_106 := gb105.size
          clear gb105
          clear cP hk
          go_wp2_with fail
          go_roundw
          case rel => exact ⟨i + 1, p, ls, by omega, by go_num, HGd, hG, kk103.mono (by omega), by omega, h, o1.mono (Nat.le_refl _) (by omega)⟩
          case measure => simp [intOf]
        · rw [hk] at cP
          have HG2 := Lib.hid (Sl.good_end HGd.out hk)
          refine (cP).mono ?_; rintro q_ w105 ⟨u1, rfl, o2, bb105⟩
          have gb105 := grown_below bb105
          clear bb105
          replace kk103 := kk103.grown0 gb105
          replace h := h.grown gb105 (by omega) (fun q e => by cases e)
          replace o1 := o1.apart gb105 (fun q e => by cases e)
          replace hG := grown_trans hG (grown_weaken gb105)
          have z_106 := gb105.size
          clear gb105
          clear cP hk
          go_wp2_with fail
          refine (one_any g _ _ l 2 w105 h (by omega) hg kk103 (by omega) (by omega)).mono ?_; rintro q_ w107 ⟨b3, rfl, gg107, kk107⟩
          clear kk103
          replace h := h.grown gg107 (by omega) (fun q e => by injection e with e; omega)
          replace o1 := o1.apart gg107 (fun q e => by injection e with e; omega)
          replace o2 := o2.apart gg107 (fun q e => by injection e with e; omega)
          replace hG := grown_trans hG gg107
          have z_108 := gg107.size
          clear gg107
          cases b3
          · go_wp2_with fail
            go_roundw
            case rel => exact ⟨i + 1, p, ls, by omega, by go_num, HGd, hG, kk107.mono (by omega), by omega, h, o1.mono (Nat.le_refl _) (by omega)⟩
            case measure => simp [intOf]
          · go_wp2_with fail
            go_roundw
            case rel => exact ⟨i + 1, p, _, by omega, by go_num, HG2, hG, kk107.mono (by omega), by omega, h, o2.mono (by omega) (by omega)⟩
            case measure => simp [intOf]
    obtain rfl : i = m := by omega
    subst hq
    have hl4 := Lib.hid (Sl.good_len HGd.out)
    obtain ⟨A1, n1, c1, rfl, H1, hnc1, hm1⟩ := o1.rd.form
    obtain rfl : n1 = 4 := by rw [H1.out, hl4.out]
    have hd1 := Lib.hid (Sl.dis_good HGd.out)
    clear H1
    go_wp2_with fail
    refine (pick_any g _ _ l 24 wr h (by omega) hg hc (by omega) (by omega)).mono ?_; rintro q_ w101 ⟨z1, rfl, z1_0, z1_1, gg101, kk101⟩
    clear hc
    replace h := h.grown gg101 (by omega) (fun q e => by injection e with e; omega)
    replace o1 := o1.apart gg101 (fun q e => by injection e with e; omega)
    replace hG := grown_trans hG gg101
    have z_102 := gg101.size
    clear gg101
    by_cases h0 : z1 = 0
    rotate_left
    by_cases h1 : z1 = 1
    rotate_left
    by_cases h2 : z1 = 2
    rotate_left
    · have h0b : (z1 == 0) = false := by rw [beq_eq_false_iff_ne]; exact h0
      have h1b : (z1 == 1) = false := by rw [beq_eq_false_iff_ne]; exact h1
      have h2b : (z1 == 2) = false := by rw [beq_eq_false_iff_ne]; exact h2
      go_wp2_with fail
      go_ret
      exact ⟨_, _, rfl, by simp [hl4.out], hd1.out, o1.mono (by omega) (by omega), hG, kk101.mono (by omega)⟩
    · subst h0
      go_wp2_with fail
      refine (pick_any g _ _ l 4 w101 h (by omega) hg kk101 (by omega) (by omega)).mono ?_; rintro q_ w103 ⟨y4, rfl, y4_0, y4_1, gg103, kk103⟩
      clear kk101
      replace h := h.grown gg103 (by omega) (fun q e => by injection e with e; omega)
      replace o1 := o1.apart gg103 (fun q e => by injection e with e; omega)
      replace hG := grown_trans hG gg103
      have z_104 := gg103.size
      clear gg103
      obtain ⟨j4, rfl⟩ : ∃ j : Nat, y4 = j := ⟨y4.toNat, by omega⟩
      have hj4 : j4 < 4 := by omega
      have hji : (j4 : Int) < 4 := by omega
      clear y4_0 y4_1
      go_wp2_with fail
      have rl := lit_ints w103 [-1, 4, 1] #[.int .i64 (-1), .int .i64 4, .int .i64 1] 3 rfl rfl (by decide)
      have ga105 := grown_alloc w103 (.cells #[.int .i64 (-1), .int .i64 4, .int .i64 1] 3)
      have za105 : (w103.alloc (.cells #[.int .i64 (-1), .int .i64 4, .int .i64 1] 3)).heap.size = w103.heap.size + 1 := by simp
      replace kk103 := kk103.grown0 ga105
      replace h := h.grown ga105 (by omega) (fun q e => by cases e)
      replace o1 := o1.apart ga105 (fun q e => by cases e)
      replace hG := grown_trans hG (grown_weaken ga105)
      have z_106 := ga105.size
      clear ga105
      generalize w103.alloc _ = w105 at *
      generalize hgz106 : w103.heap.size = gz106 at *
      clear hgz106
      refine (among_in g _ _ _ l [-1, 4, 1] w105 h (by omega) hg rl (by omega) (by omega) (by decide) (by decide) kk103 (by omega)).mono ?_; rintro q_ w107 ⟨s1, rfl, hin_s1, gg107, kk107⟩
      clear kk103
      replace h := h.grown gg107 (by omega) (fun q e => by injection e with e; omega)
      replace o1 := o1.apart gg107 (fun q e => by injection e with e; omega)
      replace hG := grown_trans hG gg107
      have z_108 := gg107.size
      clear gg107
      clear rl
      go_wp2_with fail
      have rl := lit_ints w107 [-1, 7, 8] #[.int .i64 (-1), .int .i64 7, .int .i64 8] 3 rfl rfl (by decide)
      have ga109 := grown_alloc w107 (.cells #[.int .i64 (-1), .int .i64 7, .int .i64 8] 3)
      have za109 : (w107.alloc (.cells #[.int .i64 (-1), .int .i64 7, .int .i64 8] 3)).heap.size = w107.heap.size + 1 := by simp
      replace kk107 := kk107.grown0 ga109
      replace h := h.grown ga109 (by omega) (fun q e => by cases e)
      replace o1 := o1.apart ga109 (fun q e => by cases e)
      replace hG := grown_trans hG (grown_weaken ga109)
      have z_110 := ga109.size
      clear ga109
      generalize w107.alloc _ = w109 at *
      generalize hgz110 : w107.heap.size = gz110 at *
      clear hgz110
      refine (among_in g _ _ _ l [-1, 7, 8] w109 h (by omega) hg rl (by omega) (by omega) (by decide) (by decide) kk107 (by omega)).mono ?_; rintro q_ w111 ⟨s2, rfl, hin_s2, gg111, kk111⟩
      clear kk107
      replace h := h.grown gg111 (by omega) (fun q e => by injection e with e; omega)
      replace o1 := o1.apart gg111 (fun q e => by injection e with e; omega)
      replace hG := grown_trans hG gg111
      have z_112 := gg111.size
      clear gg111
      clear rl
      go_wp2_with fail
      have rl := lit_ints w111 [-1, 15, 16] #[.int .i64 (-1), .int .i64 15, .int .i64 16] 3 rfl rfl (by decide)
      have ga113 := grown_alloc w111 (.cells #[.int .i64 (-1), .int .i64 15, .int .i64 16] 3)
      have za113 : (w111.alloc (.cells #[.int .i64 (-1), .int .i64 15, .int .i64 16] 3)).heap.size = w111.heap.size + 1 := by simp
      replace kk111 := kk111.grown0 ga113
      replace h := h.grown ga113 (by omega) (fun q e => by cases e)
      replace o1 := o1.apart ga113 (fun q e => by cases e)
      replace hG := grown_trans hG (grown_weaken ga113)
      have z_114 := ga113.size
      clear ga113
      generalize w111.alloc _ = w113 at *
      generalize hgz114 : w111.heap.size = gz114 at *
      clear hgz114
      refine (among_in g _ _ _ l [-1, 15, 16] w113 h (by omega) hg rl (by omega) (by omega) (by decide) (by decide) kk111 (by omega)).mono ?_; rintro q_ w115 ⟨s3, rfl, hin_s3, gg115, kk115⟩
      clear kk111
      replace h := h.grown gg115 (by omega) (fun q e => by injection e with e; omega)
      replace o1 := o1.apart gg115 (fun q e => by injection e with e; omega)
      replace hG := grown_trans hG gg115
      have z_116 := gg115.size
      clear gg115
      clear rl
      obtain ⟨b, off, t, rfl, HT, hb1, hb2, f0, f1, f2⟩ := Sl.get o1.rd hj4 (Below.refl w115.heap.size w115) (by omega)
      have hfz := o1.frozen (by omega)
      have hbW : b < w115.heap.size := by omega
      go_wp2_with fail
      have hs1 : Sl.isAct ⟨s1, s2, s3⟩ = false := by have := hin_s1.out; simp at this; rcases this with rfl | rfl | rfl <;> rfl
      clear hin_s1 hin_s2 hin_s3
      generalize hwz : World.setCell (World.setCell (World.setCell _ _ _) _ _) _ _ = wz_
      obtain rfl : wz_ = setL w115 b (off + j4 * 3) [.int .i64 s1, .int .i64 s2, .int .i64 s3] := hwz.symm
      clear hwz
      have oS := o1.upd Sl.cells_len (by omega) HT.out (t' := ⟨s1, s2, s3⟩) (Upd.of_setL (ys := [.int .i64 s1, .int .i64 s2, .int .i64 s3]) 0 rfl rfl (by simp))
      have gS := setL_grown [.int .i64 s1, .int .i64 s2, .int .i64 s3] w115 b (off + j4 * 3)
      have zS := setL_size [.int .i64 s1, .int .i64 s2, .int .i64 s3] w115 b (off + j4 * 3)
      replace hG := grown_new hG gS (fun q e => by injection e with e; omega)
      replace kk115 := kk115.other gS (by omega)
      generalize setL w115 b _ _ = wS at *
      go_ret
      exact ⟨_, _, rfl, by simp [hl4.out], Sl.dis_set hd1.out hs1 j4, oS.mono (by omega) (by omega), hG, kk115.mono (by omega)⟩
    · subst h1
      have ga8 := grown_alloc w101 (.cells #[.int .i64 0, .int .i64 0, .int .i64 0] 33)
      have za8 : (w101.alloc (.cells #[.int .i64 0, .int .i64 0, .int .i64 0] 33)).heap.size = w101.heap.size + 1 := by simp
      have oL := o1.apart ga8 (fun q e => by cases e)
      go_wp2_with (at_builtin; (refine Sl.app_ow rfl _ _ rfl rfl oL w101.heap.size 1 ⟨0, 0, 0⟩ rfl (fun j u hu => cell_new _ _ _ rfl (by simpa [Sl.cells] using hu)) (by omega) (by omega) (by omega) ?_); (intro v8 w8 row8 o8 g8 r8))
      replace hG := grown_new (grown_trans hG (grown_weaken ga8)) g8 (fun q e => by have := r8 q e; omega)
      replace kk101 := (kk101.grown0 ga8).row g8 (fun b e => by have := r8 b e; omega)
      have z8 := g8.size
      go_ret
      exact ⟨_, _, rfl, by simp [hl4.out], Sl.dis_snoc hd1.out rfl, o8.mono (by omega) (by omega), hG, kk101.mono (by omega)⟩
    · subst h2
      obtain ⟨b, off, t, rfl, HT, hb1, hb2, f0, f1, f2⟩ := Sl.get o1.rd (show 3 < 4 by omega) (Below.refl w101.heap.size w101) (by omega)
      have hfz := o1.frozen (by omega)
      have hbW : b < w101.heap.size := by omega
      go_wp2_with fail
      generalize hwz : World.setCell (World.setCell (World.setCell _ _ _) _ _) _ _ = wz_
      obtain rfl : wz_ = setL w101 b (off + 3 * 3) [.int .i64 0, .int .i64 1, .int .i64 0] := hwz.symm
      clear hwz
      have oS := o1.upd Sl.cells_len (by omega) HT.out (t' := ⟨0, 1, 0⟩) (Upd.of_setL (ys := [.int .i64 0, .int .i64 1, .int .i64 0]) 0 rfl rfl (by simp))
      have gS := setL_grown [.int .i64 0, .int .i64 1, .int .i64 0] w101 b (off + 3 * 3)
      have zS := setL_size [.int .i64 0, .int .i64 1, .int .i64 0] w101 b (off + 3 * 3)
      replace hG := grown_new hG gS (fun q e => by injection e with e; omega)
      replace kk101 := kk101.other gS (by omega)
      generalize setL w101 b _ _ = wS at *
      go_ret
      exact ⟨_, _, rfl, by simp [hl4.out], Sl.dis_set hd1.out rfl 3, oS.mono (by omega) (by omega), hG, kk101.mono (by omega)⟩

end Go.Proofs.Ytaggjadgbmmjoaa
