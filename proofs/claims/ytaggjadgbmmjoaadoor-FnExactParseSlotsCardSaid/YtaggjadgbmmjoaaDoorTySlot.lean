/- The type 'Slot' of the law text and of the program: its data, its cells, and what the law text's own helpers do with lists of it. No condition. -/
import Derived.Test.YtaggjadgbmmjoaaDoorBase
namespace Go.Proofs.YtaggjadgbmmjoaaDoor
open Go.RowKit Go.ChangeShapes Go.WideShapes Go.Deep

structure Sl where
  state : Int
  irq : Int
  prio : Int
  deriving DecidableEq, Inhabited

def Sl.cells (t : Sl) : List Value := [.int .i64 t.state, .int .i64 t.irq, .int .i64 t.prio]
def Sl.val (t : Sl) : Value := .agg #[.int .i64 t.state, .int .i64 t.irq, .int .i64 t.prio]
def Sl.zero : Sl := ⟨0, 0, 0⟩
theorem Sl.cells_len (t : Sl) : t.cells.length = 3 := rfl
theorem Sl.info : (Tryd.prog.info? 37).map (fun i => (i.zero, i.size, i.bytes)) = some (some (.agg #[.int .i64 0, .int .i64 0, .int .i64 0]), 3, 24) := by kernel_rfl
theorem Sl.get {w : World} {lo hi : Nat} {A : Option Addr} {n c k : Nat} {l : List Sl} (h : Rd Sl.cells 3 w lo hi (.slice A n c) l) (hk : k < n) {B : Nat} {wr : World} (hb : Below B w wr) (hB : hi ≤ B) :
    ∃ b off t, A = some ⟨b, off, none⟩ ∧ Hid (l[k]? = some t) ∧ lo ≤ b ∧ b < hi ∧ wr.cell? ⟨b, off + k * 3, none⟩ = some (.int .i64 t.state) ∧ wr.cell? ⟨b, off + k * 3 + 1, none⟩ = some (.int .i64 t.irq) ∧ wr.cell? ⟨b, off + k * 3 + 2, none⟩ = some (.int .i64 t.prio) := by
  obtain ⟨b, off, t, hA, hx, h1, h2, h3⟩ := h.get hk hb hB
  exact ⟨b, off, t, hA, hx, h1, h2, h3 0 _ rfl, h3 1 _ rfl, h3 2 _ rfl⟩
def Sl.eqB (x y : Sl) : Bool := x.state == y.state && (x.irq == y.irq && (x.prio == y.prio))
theorem Sl.eqB_iff (x y : Sl) : x.eqB y = true ↔ x = y := by
  cases x; cases y; simp [Sl.eqB]
def Sl.eqL (a b : List Sl) : Bool := decide (a = b)
theorem Sl.cellsOfLaw : Tryd.prog.cellsOf 39 = 3 := by kernel_rfl
set_option maxRecDepth 8000 in
theorem Sl.open_ {H : Type} {enc : TypeId × Value → H} {w : World} {base : Nat} {spare : Nat → Bool} {held : Bool} {r : Reach} {b0 : Nat} {v : Value} {d : DataW H} {p : List MemPlace}
    (hv : Value.okWide Tryd.prog w r b0 39 v) (h : DataW.Trod enc Tryd.prog w base spare held 39 v d p) : ∃ t : Sl, v = t.val := by
  obtain ⟨v0, v1, v2, y0, y1, y2, n, rfl, _, _, h0, h1, h2⟩ := Go.Joins.open_agg3 Tryd.underlying39 (by kernel_rfl) Sl.cellsOfLaw hv h
  obtain ⟨a0, e0, _⟩ := DataW.trod_int Tryd.underlying3 h0
  obtain ⟨a1, e1, _⟩ := DataW.trod_int Tryd.underlying3 h1
  obtain ⟨a2, e2, _⟩ := DataW.trod_int Tryd.underlying3 h2
  simp only [List.cons.injEq, and_true] at e0 e1 e2
  subst e0 e1 e2
  exact ⟨⟨a0, a1, a2⟩, rfl⟩
set_option maxRecDepth 8000 in
theorem Sl.openS {H : Type} {enc : TypeId × Value → H} {w : World} {base : Nat} {spare : Nat → Bool} {held : Bool} {r : Reach} {b0 : Nat} {v : Value} {d : DataW H} {p : List MemPlace}
    (hv : Value.okWide Tryd.prog w r b0 22 v) (h : DataW.Trod enc Tryd.prog w base spare held 22 v d p) : ∃ l : List Sl, Rd Sl.cells 3 w 0 w.heap.size v l :=
  open_rd (by omega) Sl.cells_len Tryd.underlying22 Tryd.underlying39 (by kernel_rfl) Sl.cellsOfLaw rfl (fun V hV => by
    obtain ⟨n0, y0, h0⟩ := hV 0 _ rfl
    obtain ⟨a0, e0, _⟩ := DataW.trod_int Tryd.underlying3 h0
    simp only [List.cons.injEq, and_true] at e0
    obtain ⟨n1, y1, h1⟩ := hV 1 _ rfl
    obtain ⟨a1, e1, _⟩ := DataW.trod_int Tryd.underlying3 h1
    simp only [List.cons.injEq, and_true] at e1
    obtain ⟨n2, y2, h2⟩ := hV 2 _ rfl
    obtain ⟨a2, e2, _⟩ := DataW.trod_int Tryd.underlying3 h2
    simp only [List.cons.injEq, and_true] at e2
    refine ⟨⟨a0, a1, a2⟩, fun j u hu => ?_⟩
    match j with
    | 0 => rw [e0]; exact (Option.some.inj hu).symm
    | 1 => rw [e1]; exact (Option.some.inj hu).symm
    | 2 => rw [e2]; exact (Option.some.inj hu).symm
    | j + 3 => simp [Sl.cells] at hu) hv h

theorem Sl.index_any (g : FuncId) (lb : Array Value) (p : Sl → Bool) (v : Value) (l : List Sl) (w : World) {lo hi : Nat} (h : Rd Sl.cells 3 w lo hi v l) (hh : hi ≤ w.heap.size)
    (eg : ∀ args w, (callFunc g args).run Tryd.prog w = .ok (.enter g args) w)
    (hp : ∀ (t : Sl) (W : World), t ∈ l → Below w.heap.size w W → Calls Tryd.prog g (#[t.val] ++ lb) W fun e w' => e = .returned (.bool (p t)) ∧ Below W.heap.size W w') :
    Calls Tryd.prog 41 #[v, .func (.func g) #[] lb] w fun e w' => e = .returned (.int .i64 (findIx p l)) ∧ Below w.heap.size w w' := by
  obtain ⟨A, n, c, rfl, H, hc, hm⟩ := h.form
  unfold Sl.val at hp
  have HP := Lib.hid hp
  clear hp
  go_enter Tryd.func41, Tryd.ntmps41
  go_wp2_with fail
  go_loopw [8] (fun i wr => ∃ k : Nat, k ≤ n ∧ i = .int .i64 k ∧ Below w.heap.size w wr ∧ (l.take k).any p = false) (fun i _ => n - (intOf i).toNat)
  case atStart => exact ⟨0, Nat.zero_le _, rfl, Below.refl _ _, by simp⟩
  case round =>
    obtain ⟨k, hk, rfl, hb, he⟩ := hrel
    have HE := Lib.hid he
    clear he
    by_cases hlt : k < n
    · obtain ⟨b, off, x, rfl, hx, _, _, f0, f1, f2⟩ := Sl.get h hlt hb hh
      have c1 := HP.out x wr (List.mem_of_getElem? hx.out) hb
      cases hq : p x
      · rw [hq] at c1
        have HF := Lib.hid hq
        clear hq
        go_wp2_with fail
        refine c1.mono ?_; rintro e w1 ⟨rfl, hb1⟩
        go_wp2_with fail
        go_roundw
        case rel => exact ⟨k + 1, by omega, by go_num, hb.trans (hb1.mono hb.size), by rw [List.take_add_one, List.any_append, HE.out, hx.out]; simp [HF.out]⟩
        case measure => simp [intOf]; omega
      · rw [hq] at c1
        have HF := Lib.hid (findIx_hit HE.out hx.out hq)
        clear hq
        go_wp2_with fail
        refine c1.mono ?_; rintro e w1 ⟨rfl, hb1⟩
        go_wp2_with fail
        go_ret
        exact ⟨ret_int HF.out.symm, hb.trans (hb1.mono hb.size)⟩
    · go_wp2_with fail
      go_ret
      have he := HE.out
      rw [List.take_of_length_le (by rw [← H.out]; omega)] at he
      exact ⟨ret_int (by simp [findIx, he]), hb⟩

theorem Sl.to_any (t : Sl) (w : World) : Calls Tryd.prog 16 #[t.val] w fun e w' => e = .returned t.val ∧ Below w.heap.size w w' := by
  unfold Sl.val
  go_enter Tryd.func16, Tryd.ntmps16
  go_wp2
  go_returns
  exact ⟨rfl, by go_grown⟩
theorem Sl.eq_any (x y : Sl) (w : World) : Calls Tryd.prog 19 #[x.val, y.val] w fun e w' => e = .returned (.bool (x.eqB y)) ∧ Below w.heap.size w w' := by
  unfold Sl.val
  go_enter Tryd.func19, Tryd.ntmps19
  go_wp2
  all_goals (go_ret; exact ⟨ret_bool (by simp_all [Sl.eqB]), by go_grown⟩)
theorem Sl.szS_any (v : Value) (l : List Sl) (w : World) {lo hi : Nat} (h : Rd Sl.cells 3 w lo hi v l) (left : Int) (h0 : 0 ≤ left) (h1 : left ≤ 1048576) : Calls Tryd.prog 5 #[v, .int .i64 left] w fun e w' => e = .returned (.int .i64 (szL left l.length)) ∧ w = w' := by
  obtain ⟨A, n, c, rfl, hn, hc, hm⟩ := h.form
  rw [← hn.out]
  by_cases hlt : left - n < 0
  · have H := Lib.hid (show szL left n = -1 from by simp [szL, hlt])
    go_enter Tryd.func5, Tryd.ntmps5
    go_wp2
    go_ret
    exact ⟨ret_int H.out.symm, rfl⟩
  · have H := Lib.hid (show szL left n = left - n from by simp [szL, hlt])
    go_enter Tryd.func5, Tryd.ntmps5
    go_wp2
    go_ret
    exact ⟨ret_int H.out.symm, rfl⟩
theorem Sl.toS_any (v : Value) (l : List Sl) (w : World) {lo hi : Nat} (h : Rd Sl.cells 3 w lo hi v l) (hlo : hi ≤ w.heap.size) (hl : l.length ≤ 1048576) :
    Calls Tryd.prog 7 #[v] w fun e w' => ∃ v', e = .returned v' ∧ Ow Sl.cells 3 37 w' w.heap.size w'.heap.size v' l ∧ Below w.heap.size w w' := by
  obtain ⟨A, n, c, rfl, H, hc, hm⟩ := h.form
  rw [← H.out] at hl
  obtain ⟨i0, hi0, hz0, hz1, hz2⟩ := info_parts Sl.info
  have hmk := make_new (P := Tryd.prog) Tryd.underlying26 hi0 hz0 n hl (by omega)
  rw [hz1] at hmk
  have c1 := fun t => Sl.to_any t
  unfold Sl.val at c1
  obtain ⟨cur, hcur, hcs⟩ := heap_made w (Value.agg #[.int .i64 0, .int .i64 0, .int .i64 0]).cells (n * 3) 37
  have hb0 := (Below.refl w.heap.size w).alloc (Nat.le_refl _) (.cells (madeCells (Value.agg #[.int .i64 0, .int .i64 0, .int .i64 0]).cells (n * 3)) 37)
  have hp0 : Part Sl.cells 3 37 _ w.heap.size 0 n [] := Part.start cur hcur (by omega)
  clear hcur hcs
  go_enter Tryd.func7, Tryd.ntmps7
  go_wp2
  simp only [Value.cells] at hb0 hp0
  generalize w.alloc _ = w0 at hb0 hp0 ⊢
  go_loopw [4] (fun i wr => ∃ k : Nat, k ≤ n ∧ i = .int .i64 k ∧ Below w.heap.size w wr ∧ Part Sl.cells 3 37 wr w.heap.size 0 n (l.take k)) (fun i _ => n - (intOf i).toNat)
  case atStart => exact ⟨0, Nat.zero_le _, rfl, hb0, hp0⟩
  case round =>
    clear hb0 hp0
    obtain ⟨k, hk, rfl, hb, hp⟩ := hrel
    by_cases hlt : k < n
    · obtain ⟨b, off, t, rfl, ht, _, hbw, f0, f1, f2⟩ := Sl.get h hlt hb hlo
      go_wp2_with (go_at_call 16; refine (c1 t _).mono ?_; rintro e w1 ⟨rfl, hb1⟩; have hp1 := hp.below hb1; have hfz := hp1.frozen; obtain ⟨⟨o0, g0⟩, ⟨o1, g1⟩, ⟨o2, g2⟩⟩ := hp1.cell3 hlt)
      go_roundw
      case rel =>
        refine ⟨k + 1, by omega, by go_num, setL_below (hb.trans (hb1.mono hb.size)) t.cells w.heap.size (k * 3) (Nat.le_refl _), ?_⟩
        have hlen : (l.take k).length = k := by rw [List.length_take, ← H.out]; omega
        rw [List.take_add_one, ht.out]
        exact hp1.set (by omega) t t.cells rfl rfl Sl.cells_len (by rw [hlen]; omega)
      case measure => simp [intOf]; omega
    · go_wp2
      go_ret
      have hkn : k = n := by omega
      subst hkn
      rw [List.take_of_length_le (by rw [← H.out]; omega)] at hp
      exact ⟨_, rfl, hp.ow H.out.symm (Nat.le_refl _) hp.lt (Nat.le_refl _) (by unfold maxLen; omega), hb⟩
theorem Sl.eqS_any (v1 v2 : Value) (l1 l2 : List Sl) (w : World) {lo1 hi1 lo2 hi2 : Nat} (h1 : Rd Sl.cells 3 w lo1 hi1 v1 l1) (h2 : Rd Sl.cells 3 w lo2 hi2 v2 l2) (hh1 : hi1 ≤ w.heap.size) (hh2 : hi2 ≤ w.heap.size) :
    Calls Tryd.prog 9 #[v1, v2] w fun e w' => e = .returned (.bool (Sl.eqL l1 l2)) ∧ Below w.heap.size w w' := by
  obtain ⟨A, n, c, rfl, H1, hc1, hm1⟩ := h1.form
  obtain ⟨B, m, d, rfl, H2, hc2, hm2⟩ := h2.form
  have c1 := fun a b => Sl.eq_any a b
  unfold Sl.val at c1
  by_cases hne : n = m
  · subst hne
    go_enter Tryd.func9, Tryd.ntmps9
    go_wp2_with fail
    go_loopw [5] (fun i wr => ∃ k : Nat, k ≤ n ∧ i = .int .i64 k ∧ Below w.heap.size w wr ∧ l1.take k = l2.take k) (fun i _ => n - (intOf i).toNat)
    case atStart => exact ⟨0, Nat.zero_le _, rfl, Below.refl _ _, rfl⟩
    case round =>
      obtain ⟨k, hk, rfl, hb, he⟩ := hrel
      have HE := Lib.hid he
      clear he
      by_cases hlt : k < n
      · obtain ⟨b, off, x, rfl, hx, _, _, f0, f1, f2⟩ := Sl.get h1 hlt hb hh1
        obtain ⟨b', off', y, rfl, hy, _, _, g0, g1, g2⟩ := Sl.get h2 hlt hb hh2
        cases hq : x.eqB y
        · have c1 := c1 x y
          rw [hq] at c1
          have hne : l1 ≠ l2 := by
            rintro rfl
            have : x = y := Option.some.inj (hx.out.symm.trans hy.out)
            rw [(Sl.eqB_iff x y).2 this] at hq
            cases hq
          have HF := Lib.hid (show Sl.eqL l1 l2 = false from by simp [Sl.eqL, hne])
          clear hne hq
          go_wp2_with fail
          go_region_with (go_at_call 19; refine (c1 _).mono ?_; rintro e w1 ⟨rfl, hb1⟩)
          all_goals
            go_wp2_with fail
            go_ret
            exact ⟨ret_bool HF.out.symm, hb.drew.trans (hb1.mono hb.size)⟩
        · have c1 := c1 x y
          rw [hq] at c1
          have HF := Lib.hid ((Sl.eqB_iff x y).1 hq)
          clear hq
          go_wp2_with fail
          go_region_with (go_at_call 19; refine (c1 _).mono ?_; rintro e w1 ⟨rfl, hb1⟩)
          all_goals
            go_wp2_with fail
            go_roundw
            case rel => exact ⟨k + 1, by omega, by go_num, hb.drew.trans (hb1.mono hb.size), by rw [List.take_add_one, List.take_add_one, HE.out, hx.out, hy.out, HF.out]⟩
            case measure => simp [intOf]; omega
      · go_wp2_with fail
        go_ret
        refine ⟨ret_bool ?_, hb⟩
        have he := HE.out
        rw [List.take_of_length_le (by rw [← H1.out]; omega), List.take_of_length_le (by rw [← H2.out]; omega)] at he
        simp [Sl.eqL, he]
  · have HF := Lib.hid (show Sl.eqL l1 l2 = false from by
      have : l1 ≠ l2 := by rintro rfl; exact hne (H1.out.trans H2.out.symm)
      simp [Sl.eqL, this])
    go_enter Tryd.func9, Tryd.ntmps9
    go_wp2_with fail
    go_ret
    exact ⟨ret_bool HF.out.symm, Below.refl _ _⟩
theorem Sl.eqS_same (v1 v2 : Value) (l : List Sl) (w : World) {lo1 hi1 lo2 hi2 : Nat} (h1 : Rd Sl.cells 3 w lo1 hi1 v1 l) (h2 : Rd Sl.cells 3 w lo2 hi2 v2 l) (hh1 : hi1 ≤ w.heap.size) (hh2 : hi2 ≤ w.heap.size) :
    Calls Tryd.prog 9 #[v1, v2] w fun e w' => e = .returned (.bool true) ∧ Below w.heap.size w w' := by
  have h := Sl.eqS_any v1 v2 l l w h1 h2 hh1 hh2
  rwa [show Sl.eqL l l = true from by simp [Sl.eqL]] at h

theorem Sl.one (y : Sl) (u : Value) (h : u ∈ Sl.cells y) : u.oneCell' = true := by
  simp only [Sl.cells, List.mem_cons, List.not_mem_nil, or_false] at h
  rcases h with rfl | rfl | rfl <;> rfl
theorem Sl.app_rd {w : World} {ops : Array Oper} {rest : List Oper} {o : Oper} {a : Act} {Q : Exit → Act → World → Prop} (hgd : o.guard = none) (s x : Operand)
    (ho : o.op = .call { callee := .builtin .append, args := #[s, x], argTypes := #[26, 26] }) (base : Nat)
    (v : Value) (n : Nat) (xs : List Value) (hs : a.eval s = v) (hown : w.ownsRow base 37 3 v n xs) {lo hi m c : Nat} {A : Option Addr} {l : List Sl} (hx : a.eval x = .slice A m c) (hr : Rd Sl.cells 3 w lo hi (.slice A m c) l)
    (hlen : n + m ≤ 4194304) (hbase : base ≤ w.heap.size)
    (h : ∀ v' w', w'.ownsRow base 37 3 v' (n + m) (xs ++ l.flatMap Sl.cells) → w.grownBy w' v.ownBlock → wpList Tryd.prog ops Q rest (a.put o.dst v') w') : wpList Tryd.prog ops Q (o :: rest) a w := by
  obtain ⟨i0, hi0, hz0, hz1, hz2⟩ := info_parts Sl.info
  exact wp_app_rd hgd s x _ ho base _ i0 _ 3 _ Tryd.underlying26 hi0 hz0 hz1 hz2 rfl (by omega) Sl.cells_len Sl.one v n xs hs hown hx hr (by unfold maxLen; omega) (by omega) hbase h
theorem Sl.app_one {w : World} {ops : Array Oper} {rest : List Oper} {o : Oper} {a : Act} {Q : Exit → Act → World → Prop} (hgd : o.guard = none) (s x : Operand)
    (ho : o.op = .call { callee := .builtin .append, args := #[s, x], argTypes := #[26, 26] }) (base : Nat)
    (v : Value) (n : Nat) (xs : List Value) (hs : a.eval s = v) (hown : w.ownsRow base 37 3 v n xs) {g c : Nat} (y : Sl) (hx : a.eval x = .slice (some ⟨g, 0, none⟩) 1 c) (hr : ∀ j u, (Sl.cells y)[j]? = some u → w.cell? ⟨g, j, none⟩ = some u)
    (hlen : n ≤ 4194304) (hbase : base ≤ w.heap.size)
    (h : ∀ v' w', w'.ownsRow base 37 3 v' (n + 1) (xs ++ Sl.cells y) → w.grownBy w' v.ownBlock → wpList Tryd.prog ops Q rest (a.put o.dst v') w') : wpList Tryd.prog ops Q (o :: rest) a w := by
  obtain ⟨i0, hi0, hz0, hz1, hz2⟩ := info_parts Sl.info
  exact wpList_append_own w hgd s x _ ho base _ i0 _ 3 _ Tryd.underlying26 hi0 hz0 hz1 hz2 rfl (by omega) v n xs hs hown ⟨g, 0, none⟩ 1 c (Sl.cells y) hx (by rw [Sl.cells_len]) (fun j u hu => by rw [Go.WideShapes.add_plain, Nat.zero_add]; exact hr j u hu) (Sl.one y) (by unfold maxLen; omega) (by omega) hbase
    fun v' w' h1 h2 _ => h v' w' h1 h2

/-- what marking writes, from k on -/
def Sl.mark (k : Int) : Sl := ⟨k, k + 1, k + 1 + 1⟩
def Sl.markL (k : Int) (n : Nat) : List Sl := (List.range n).map fun (i : Nat) => Sl.mark (k + 3 * i)
theorem Sl.markL_len (k : Int) (n : Nat) : (Sl.markL k n).length = n := by simp [Sl.markL]
theorem Sl.markL_succ (k : Int) (n : Nat) : Sl.markL k (n + 1) = Sl.markL k n ++ [Sl.mark (k + 3 * n)] := by simp [Sl.markL, List.range_succ]

theorem Sl.part_room {w : World} {lo hi n c : Nat} {A : Option Addr} {l : List Sl} (h : Ow Sl.cells 3 37 w lo hi (.slice A n c) l) (hc : 0 < c) :
    ∃ g off, A = some ⟨g, off, none⟩ ∧ lo ≤ g ∧ g < hi ∧ Part Sl.cells 3 37 w g off c ([] : List Sl) := by
  obtain ⟨A', c', hv, _, _, h⟩ := h
  injection hv with e1 e2 e3
  subst e1; subst e3
  obtain ⟨b, off, cur, hA, hb, hb2, hh, hz, _⟩ := h hc
  exact ⟨b, off, hA, hb, hb2, Part.start cur hh hz⟩
theorem Sl.ow_room {w : World} {g off n c lo hi : Nat} {l : List Sl} (h : Part Sl.cells 3 37 w g off c l) (hn : l.length = n) (hlo : lo ≤ g) (hhi : g < hi) (hc : n ≤ c) (hm : c ≤ maxLen) : Ow Sl.cells 3 37 w lo hi (.slice (some ⟨g, off, none⟩) n c) l := by
  obtain ⟨cur, h1, h2, h3⟩ := h
  exact ⟨_, c, by rw [hn], by omega, hm, fun _ => ⟨g, off, cur, rfl, hlo, hhi, h1, h2, h3⟩⟩
theorem Sl.markS_any (v : Value) (l : List Sl) (w : World) {lo hi : Nat} (h : Ow Sl.cells 3 37 w lo hi v l) (k0 : Int) (h0 : 0 ≤ k0) (h1 : k0 ≤ 1099511627776) (hl : l.length ≤ 1048576) :
    Calls Tryd.prog 12 #[v, .int .i64 k0] w fun e w' => e = .returned (.int .i64 (k0 + 3 * l.length)) ∧ Ow Sl.cells 3 37 w' lo hi v (Sl.markL k0 l.length) ∧ Turned w w' v l.length := by
  obtain ⟨A, n, c, rfl, H, hc, hm⟩ := h.form
  rw [← H.out] at hl ⊢
  go_enter Tryd.func12, Tryd.ntmps12
  go_wp2_with fail
  go_loopw [1, 5] (fun q i wr => ∃ k : Nat, k ≤ n ∧ i = .int .i64 k ∧ q = .int .i64 (k0 + 3 * k) ∧ (0 < n → ∃ g off, A = some ⟨g, off, none⟩ ∧ lo ≤ g ∧ g < hi ∧ Part Sl.cells 3 37 wr g off c (Sl.markL k0 k) ∧ w.grownBy wr (some g)) ∧ (n = 0 → wr = w)) (fun _ i _ => n - (intOf i).toNat)
  case atStart =>
    refine ⟨0, Nat.zero_le _, rfl, by simp, fun hn => ?_, fun _ => rfl⟩
    obtain ⟨g, off, hA, hg1, hg2, hp⟩ := Sl.part_room h (by omega)
    exact ⟨g, off, hA, hg1, hg2, by simpa [Sl.markL] using hp, World.grownBy.refl w _⟩
  case round =>
    obtain ⟨k, hk, rfl, rfl, hp, hn0⟩ := hrel
    by_cases hlt : k < n
    · obtain ⟨g, off, rfl, hg1, hg2, hp, hg⟩ := hp (by omega)
      have hfz := hp.frozen
      obtain ⟨⟨o0, g0⟩, ⟨o1, g1⟩, ⟨o2, g2⟩⟩ := hp.cell3o (show k < c by omega)
      clear hn0
      go_wp2_with fail
      go_roundw
      case rel =>
        refine ⟨k + 1, by omega, by go_num, by go_num, fun _ => ⟨g, off, rfl, hg1, hg2, ?_, ?_⟩, fun h => by omega⟩
        · rw [Sl.markL_succ]
          exact hp.set (by rw [Sl.markL_len]; omega) _ (Sl.mark (k0 + 3 * k)).cells rfl rfl Sl.cells_len (by rw [Sl.markL_len])
        · exact grown_trans hg (setL_grown (Sl.mark (k0 + 3 * k)).cells wr g (off + k * 3))
      case measure => simp [intOf]; omega
    · have hkn : k = n := by omega
      subst hkn
      go_wp2_with fail
      go_ret
      rcases Nat.eq_zero_or_pos k with hz | hz
      · subst hz
        have hl0 : l = [] := List.eq_nil_of_length_eq_zero H.out.symm
        subst hl0
        rw [hn0 rfl]
        exact ⟨rfl, h, Turned.refl _ _ _⟩
      · obtain ⟨g, off, rfl, hg1, hg2, hp, hg⟩ := hp hz
        exact ⟨rfl, Sl.ow_room hp (Sl.markL_len _ _) hg1 hg2 hc (by unfold maxLen; omega), ⟨some g, hg, fun g' e => ⟨hz, by simpa [Value.ownBlock] using e⟩⟩⟩
theorem Sl.heldS_any (v : Value) (w : World) {lo hi n : Nat} {k0 : Int} (h : Rd Sl.cells 3 w lo hi v (Sl.markL k0 n)) (h0 : 0 ≤ k0) (h1 : k0 ≤ 1099511627776) (hl : n ≤ 1048576) :
    Calls Tryd.prog 13 #[v, .int .i64 k0] w fun e w' => e = .returned (.int .i64 (k0 + 3 * n)) ∧ w = w' := by
  obtain ⟨A, m, c, rfl, H, hc, hm⟩ := h.form
  have H := H.out
  rw [Sl.markL_len] at H
  subst H
  go_enter Tryd.func13, Tryd.ntmps13
  go_wp2_with fail
  go_loop [1, 5] (fun q i => ∃ k : Nat, k ≤ m ∧ i = .int .i64 k ∧ q = .int .i64 (k0 + 3 * k)) (fun _ i => m - (intOf i).toNat)
  case atStart => exact ⟨0, Nat.zero_le _, rfl, by simp⟩
  case round =>
    obtain ⟨k, hk, rfl, rfl⟩ := hrel
    by_cases hlt : k < m
    · obtain ⟨b, off, t, rfl, ht, _, hbw, f0, f1, f2⟩ := Sl.get h hlt (Below.refl hi w) (Nat.le_refl _)
      have ht := ht.out
      simp only [Sl.markL, List.getElem?_map, List.getElem?_range hlt, Option.map_some, Option.some.injEq] at ht
      subst ht
      simp only [Sl.mark] at f0 f1 f2
      go_wp2_with fail
      go_round
      case rel => exact ⟨k + 1, by omega, by go_num, by go_num⟩
      case measure => simp [intOf]; omega
    · have hkn : k = m := by omega
      subst hkn
      go_wp2_with fail
      go_ret
      exact ⟨rfl, rfl⟩

end Go.Proofs.YtaggjadgbmmjoaaDoor
