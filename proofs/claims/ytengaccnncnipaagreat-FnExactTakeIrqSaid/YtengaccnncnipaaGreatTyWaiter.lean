/- The type 'Waiter' of the law text and of the program: its data, its cells, and what the law text's own helpers do with lists of it. No condition. -/
import Derived.Test.YtengaccnncnipaaGreatBase
namespace Go.Proofs.YtengaccnncnipaaGreat
open Go.RowKit Go.ChangeShapes Go.WideShapes Go.Deep

structure Wt where
  irq : Int
  prio : Int
  deriving DecidableEq, Inhabited

def Wt.cells (t : Wt) : List Value := [.int .i64 t.irq, .int .i64 t.prio]
def Wt.val (t : Wt) : Value := .agg #[.int .i64 t.irq, .int .i64 t.prio]
def Wt.zero : Wt := ⟨0, 0⟩
theorem Wt.cells_len (t : Wt) : t.cells.length = 2 := rfl
theorem Wt.info : (Tryz.prog.info? 134).map (fun i => (i.zero, i.size, i.bytes)) = some (some (.agg #[.int .i64 0, .int .i64 0]), 2, 16) := by kernel_rfl
theorem Wt.get {w : World} {lo hi : Nat} {A : Option Addr} {n c k : Nat} {l : List Wt} (h : Rd Wt.cells 2 w lo hi (.slice A n c) l) (hk : k < n) {B : Nat} {wr : World} (hb : Below B w wr) (hB : hi ≤ B) :
    ∃ b off t, A = some ⟨b, off, none⟩ ∧ Hid (l[k]? = some t) ∧ lo ≤ b ∧ b < hi ∧ wr.cell? ⟨b, off + k * 2, none⟩ = some (.int .i64 t.irq) ∧ wr.cell? ⟨b, off + k * 2 + 1, none⟩ = some (.int .i64 t.prio) := by
  obtain ⟨b, off, t, hA, hx, h1, h2, h3⟩ := h.get hk hb hB
  exact ⟨b, off, t, hA, hx, h1, h2, h3 0 _ rfl, h3 1 _ rfl⟩
def Wt.eqB (x y : Wt) : Bool := x.irq == y.irq && (x.prio == y.prio)
theorem Wt.eqB_iff (x y : Wt) : x.eqB y = true ↔ x = y := by
  cases x; cases y; simp [Wt.eqB]
def Wt.eqL (a b : List Wt) : Bool := decide (a = b)
theorem Wt.cellsOfLaw : Tryz.prog.cellsOf 136 = 2 := by kernel_rfl
set_option maxRecDepth 8000 in
theorem Wt.open_ {H : Type} {enc : TypeId × Value → H} {w : World} {base : Nat} {spare : Nat → Bool} {held : Bool} {r : Reach} {b0 : Nat} {v : Value} {d : DataW H} {p : List MemPlace}
    (hv : Value.okWide Tryz.prog w r b0 136 v) (h : DataW.Trod enc Tryz.prog w base spare held 136 v d p) : ∃ t : Wt, v = t.val := by
  obtain ⟨v0, v1, y0, y1, n, rfl, _, _, h0, h1⟩ := Go.Joins.open_agg2 Tryz.underlying136 (by kernel_rfl) Wt.cellsOfLaw hv h
  obtain ⟨a0, e0, _⟩ := DataW.trod_int Tryz.underlying3 h0
  obtain ⟨a1, e1, _⟩ := DataW.trod_int Tryz.underlying3 h1
  simp only [List.cons.injEq, and_true] at e0 e1
  subst e0 e1
  exact ⟨⟨a0, a1⟩, rfl⟩
set_option maxRecDepth 8000 in
theorem Wt.openS {H : Type} {enc : TypeId × Value → H} {w : World} {base : Nat} {spare : Nat → Bool} {held : Bool} {r : Reach} {b0 : Nat} {v : Value} {d : DataW H} {p : List MemPlace}
    (hv : Value.okWide Tryz.prog w r b0 24 v) (h : DataW.Trod enc Tryz.prog w base spare held 24 v d p) : ∃ l : List Wt, Rd Wt.cells 2 w 0 w.heap.size v l :=
  open_rd (by omega) Wt.cells_len Tryz.underlying24 Tryz.underlying136 (by kernel_rfl) Wt.cellsOfLaw rfl (fun V hV => by
    obtain ⟨n0, y0, h0⟩ := hV 0 _ rfl
    obtain ⟨a0, e0, _⟩ := DataW.trod_int Tryz.underlying3 h0
    simp only [List.cons.injEq, and_true] at e0
    obtain ⟨n1, y1, h1⟩ := hV 1 _ rfl
    obtain ⟨a1, e1, _⟩ := DataW.trod_int Tryz.underlying3 h1
    simp only [List.cons.injEq, and_true] at e1
    refine ⟨⟨a0, a1⟩, fun j u hu => ?_⟩
    match j with
    | 0 => rw [e0]; exact (Option.some.inj hu).symm
    | 1 => rw [e1]; exact (Option.some.inj hu).symm
    | j + 2 => simp [Wt.cells] at hu) hv h

theorem Wt.index_any (g : FuncId) (lb : Array Value) (p : Wt → Bool) (v : Value) (l : List Wt) (w : World) {lo hi : Nat} (h : Rd Wt.cells 2 w lo hi v l) (hh : hi ≤ w.heap.size)
    (eg : ∀ args w, (callFunc g args).run Tryz.prog w = .ok (.enter g args) w)
    (hp : ∀ (t : Wt) (W : World), t ∈ l → Below w.heap.size w W → Calls Tryz.prog g (#[t.val] ++ lb) W fun e w' => e = .returned (.bool (p t)) ∧ Below W.heap.size W w') :
    Calls Tryz.prog 177 #[v, .func (.func g) #[] lb] w fun e w' => e = .returned (.int .i64 (findIx p l)) ∧ Below w.heap.size w w' := by
  obtain ⟨A, n, c, rfl, H, hc, hm⟩ := h.form
  unfold Wt.val at hp
  have HP := Lib.hid hp
  clear hp
  go_enter Tryz.func177, Tryz.ntmps177
  go_wp2_with fail
  go_loopw [8] (fun i wr => ∃ k : Nat, k ≤ n ∧ i = .int .i64 k ∧ Below w.heap.size w wr ∧ (l.take k).any p = false) (fun i _ => n - (intOf i).toNat)
  case atStart => exact ⟨0, Nat.zero_le _, rfl, Below.refl _ _, by simp⟩
  case round =>
    obtain ⟨k, hk, rfl, hb, he⟩ := hrel
    have HE := Lib.hid he
    clear he
    by_cases hlt : k < n
    · obtain ⟨b, off, x, rfl, hx, _, _, f0, f1⟩ := Wt.get h hlt hb hh
      have c1 := HP.out x wr (List.mem_of_getElem? hx.out) hb
      cases hq : p x
      · rw [hq] at c1
        have HF := Lib.hid hq
        clear hq
        go_wp2_with fail
        refine c1.mono ?_; rintro e w1 ⟨rfl, hb1⟩
        go_wp2_with fail
        go_roundw
        case rel => exact ⟨k + 1, by omega, by go_num, hb.trans (hb1.mono hb.size), by rw [List.take_add_one, List.any_append, HE.out, hx.out]; simp [HF.out]⟩
        case measure => simp [intOf]; omega
      · rw [hq] at c1
        have HF := Lib.hid (findIx_hit HE.out hx.out hq)
        clear hq
        go_wp2_with fail
        refine c1.mono ?_; rintro e w1 ⟨rfl, hb1⟩
        go_wp2_with fail
        go_ret
        exact ⟨ret_int HF.out.symm, hb.trans (hb1.mono hb.size)⟩
    · go_wp2_with fail
      go_ret
      have he := HE.out
      rw [List.take_of_length_le (by rw [← H.out]; omega)] at he
      exact ⟨ret_int (by simp [findIx, he]), hb⟩

theorem Wt.to_any (t : Wt) (w : World) : Calls Tryz.prog 137 #[t.val] w fun e w' => e = .returned t.val ∧ Below w.heap.size w w' := by
  unfold Wt.val
  go_enter Tryz.func137, Tryz.ntmps137
  go_wp2
  go_returns
  exact ⟨rfl, by go_grown⟩
theorem Wt.eq_any (x y : Wt) (w : World) : Calls Tryz.prog 139 #[x.val, y.val] w fun e w' => e = .returned (.bool (x.eqB y)) ∧ Below w.heap.size w w' := by
  unfold Wt.val
  go_enter Tryz.func139, Tryz.ntmps139
  go_wp2
  all_goals (go_ret; exact ⟨ret_bool (by simp_all [Wt.eqB]), by go_grown⟩)
theorem Wt.szS_any (v : Value) (l : List Wt) (w : World) {lo hi : Nat} (h : Rd Wt.cells 2 w lo hi v l) (left : Int) (h0 : 0 ≤ left) (h1 : left ≤ 1048576) : Calls Tryz.prog 97 #[v, .int .i64 left] w fun e w' => e = .returned (.int .i64 (szL left l.length)) ∧ w = w' := by
  obtain ⟨A, n, c, rfl, hn, hc, hm⟩ := h.form
  rw [← hn.out]
  by_cases hlt : left - n < 0
  · have H := Lib.hid (show szL left n = -1 from by simp [szL, hlt])
    go_enter Tryz.func97, Tryz.ntmps97
    go_wp2
    go_ret
    exact ⟨ret_int H.out.symm, rfl⟩
  · have H := Lib.hid (show szL left n = left - n from by simp [szL, hlt])
    go_enter Tryz.func97, Tryz.ntmps97
    go_wp2
    go_ret
    exact ⟨ret_int H.out.symm, rfl⟩
theorem Wt.toS_any (v : Value) (l : List Wt) (w : World) {lo hi : Nat} (h : Rd Wt.cells 2 w lo hi v l) (hlo : hi ≤ w.heap.size) (hl : l.length ≤ 1048576) :
    Calls Tryz.prog 105 #[v] w fun e w' => ∃ v', e = .returned v' ∧ Ow Wt.cells 2 134 w' w.heap.size w'.heap.size v' l ∧ Below w.heap.size w w' := by
  obtain ⟨A, n, c, rfl, H, hc, hm⟩ := h.form
  rw [← H.out] at hl
  obtain ⟨i0, hi0, hz0, hz1, hz2⟩ := info_parts Wt.info
  have hmk := make_new (P := Tryz.prog) Tryz.underlying31 hi0 hz0 n hl (by omega)
  rw [hz1] at hmk
  have c1 := fun t => Wt.to_any t
  unfold Wt.val at c1
  obtain ⟨cur, hcur, hcs⟩ := heap_made w (Value.agg #[.int .i64 0, .int .i64 0]).cells (n * 2) 134
  have hb0 := (Below.refl w.heap.size w).alloc (Nat.le_refl _) (.cells (madeCells (Value.agg #[.int .i64 0, .int .i64 0]).cells (n * 2)) 134)
  have hp0 : Part Wt.cells 2 134 _ w.heap.size 0 n [] := Part.start cur hcur (by omega)
  clear hcur hcs
  go_enter Tryz.func105, Tryz.ntmps105
  go_wp2
  simp only [Value.cells] at hb0 hp0
  generalize w.alloc _ = w0 at hb0 hp0 ⊢
  go_loopw [4] (fun i wr => ∃ k : Nat, k ≤ n ∧ i = .int .i64 k ∧ Below w.heap.size w wr ∧ Part Wt.cells 2 134 wr w.heap.size 0 n (l.take k)) (fun i _ => n - (intOf i).toNat)
  case atStart => exact ⟨0, Nat.zero_le _, rfl, hb0, hp0⟩
  case round =>
    clear hb0 hp0
    obtain ⟨k, hk, rfl, hb, hp⟩ := hrel
    by_cases hlt : k < n
    · obtain ⟨b, off, t, rfl, ht, _, hbw, f0, f1⟩ := Wt.get h hlt hb hlo
      go_wp2_with (go_at_call 137; refine (c1 t _).mono ?_; rintro e w1 ⟨rfl, hb1⟩; have hp1 := hp.below hb1; have hfz := hp1.frozen; obtain ⟨⟨o0, g0⟩, ⟨o1, g1⟩⟩ := hp1.cell2 hlt)
      go_roundw
      case rel =>
        refine ⟨k + 1, by omega, by go_num, setL_below (hb.trans (hb1.mono hb.size)) t.cells w.heap.size (k * 2) (Nat.le_refl _), ?_⟩
        have hlen : (l.take k).length = k := by rw [List.length_take, ← H.out]; omega
        rw [List.take_add_one, ht.out]
        exact hp1.set (by omega) t t.cells rfl rfl Wt.cells_len (by rw [hlen]; omega)
      case measure => simp [intOf]; omega
    · go_wp2
      go_ret
      have hkn : k = n := by omega
      subst hkn
      rw [List.take_of_length_le (by rw [← H.out]; omega)] at hp
      exact ⟨_, rfl, hp.ow H.out.symm (Nat.le_refl _) hp.lt (Nat.le_refl _) (by unfold maxLen; omega), hb⟩
theorem Wt.eqS_any (v1 v2 : Value) (l1 l2 : List Wt) (w : World) {lo1 hi1 lo2 hi2 : Nat} (h1 : Rd Wt.cells 2 w lo1 hi1 v1 l1) (h2 : Rd Wt.cells 2 w lo2 hi2 v2 l2) (hh1 : hi1 ≤ w.heap.size) (hh2 : hi2 ≤ w.heap.size) :
    Calls Tryz.prog 108 #[v1, v2] w fun e w' => e = .returned (.bool (Wt.eqL l1 l2)) ∧ Below w.heap.size w w' := by
  obtain ⟨A, n, c, rfl, H1, hc1, hm1⟩ := h1.form
  obtain ⟨B, m, d, rfl, H2, hc2, hm2⟩ := h2.form
  have c1 := fun a b => Wt.eq_any a b
  unfold Wt.val at c1
  by_cases hne : n = m
  · subst hne
    go_enter Tryz.func108, Tryz.ntmps108
    go_wp2_with fail
    go_loopw [5] (fun i wr => ∃ k : Nat, k ≤ n ∧ i = .int .i64 k ∧ Below w.heap.size w wr ∧ l1.take k = l2.take k) (fun i _ => n - (intOf i).toNat)
    case atStart => exact ⟨0, Nat.zero_le _, rfl, Below.refl _ _, rfl⟩
    case round =>
      obtain ⟨k, hk, rfl, hb, he⟩ := hrel
      have HE := Lib.hid he
      clear he
      by_cases hlt : k < n
      · obtain ⟨b, off, x, rfl, hx, _, _, f0, f1⟩ := Wt.get h1 hlt hb hh1
        obtain ⟨b', off', y, rfl, hy, _, _, g0, g1⟩ := Wt.get h2 hlt hb hh2
        cases hq : x.eqB y
        · have c1 := c1 x y
          rw [hq] at c1
          have hne : l1 ≠ l2 := by
            rintro rfl
            have : x = y := Option.some.inj (hx.out.symm.trans hy.out)
            rw [(Wt.eqB_iff x y).2 this] at hq
            cases hq
          have HF := Lib.hid (show Wt.eqL l1 l2 = false from by simp [Wt.eqL, hne])
          clear hne hq
          go_wp2_with fail
          go_region_with (go_at_call 139; refine (c1 _).mono ?_; rintro e w1 ⟨rfl, hb1⟩)
          all_goals
            go_wp2_with fail
            go_ret
            exact ⟨ret_bool HF.out.symm, hb.drew.trans (hb1.mono hb.size)⟩
        · have c1 := c1 x y
          rw [hq] at c1
          have HF := Lib.hid ((Wt.eqB_iff x y).1 hq)
          clear hq
          go_wp2_with fail
          go_region_with (go_at_call 139; refine (c1 _).mono ?_; rintro e w1 ⟨rfl, hb1⟩)
          all_goals
            go_wp2_with fail
            go_roundw
            case rel => exact ⟨k + 1, by omega, by go_num, hb.drew.trans (hb1.mono hb.size), by rw [List.take_add_one, List.take_add_one, HE.out, hx.out, hy.out, HF.out]⟩
            case measure => simp [intOf]; omega
      · go_wp2_with fail
        go_ret
        refine ⟨ret_bool ?_, hb⟩
        have he := HE.out
        rw [List.take_of_length_le (by rw [← H1.out]; omega), List.take_of_length_le (by rw [← H2.out]; omega)] at he
        simp [Wt.eqL, he]
  · have HF := Lib.hid (show Wt.eqL l1 l2 = false from by
      have : l1 ≠ l2 := by rintro rfl; exact hne (H1.out.trans H2.out.symm)
      simp [Wt.eqL, this])
    go_enter Tryz.func108, Tryz.ntmps108
    go_wp2_with fail
    go_ret
    exact ⟨ret_bool HF.out.symm, Below.refl _ _⟩
theorem Wt.eqS_same (v1 v2 : Value) (l : List Wt) (w : World) {lo1 hi1 lo2 hi2 : Nat} (h1 : Rd Wt.cells 2 w lo1 hi1 v1 l) (h2 : Rd Wt.cells 2 w lo2 hi2 v2 l) (hh1 : hi1 ≤ w.heap.size) (hh2 : hi2 ≤ w.heap.size) :
    Calls Tryz.prog 108 #[v1, v2] w fun e w' => e = .returned (.bool true) ∧ Below w.heap.size w w' := by
  have h := Wt.eqS_any v1 v2 l l w h1 h2 hh1 hh2
  rwa [show Wt.eqL l l = true from by simp [Wt.eqL]] at h

theorem Wt.one (y : Wt) (u : Value) (h : u ∈ Wt.cells y) : u.oneCell' = true := by
  simp only [Wt.cells, List.mem_cons, List.not_mem_nil, or_false] at h
  rcases h with rfl | rfl <;> rfl
theorem Wt.app_rd {w : World} {ops : Array Oper} {rest : List Oper} {o : Oper} {a : Act} {Q : Exit → Act → World → Prop} (hgd : o.guard = none) (s x : Operand)
    (ho : o.op = .call { callee := .builtin .append, args := #[s, x], argTypes := #[31, 31] }) (base : Nat)
    (v : Value) (n : Nat) (xs : List Value) (hs : a.eval s = v) (hown : w.ownsRow base 134 2 v n xs) {lo hi m c : Nat} {A : Option Addr} {l : List Wt} (hx : a.eval x = .slice A m c) (hr : Rd Wt.cells 2 w lo hi (.slice A m c) l)
    (hlen : n + m ≤ 4194304) (hbase : base ≤ w.heap.size)
    (h : ∀ v' w', w'.ownsRow base 134 2 v' (n + m) (xs ++ l.flatMap Wt.cells) → w.grownBy w' v.ownBlock → wpList Tryz.prog ops Q rest (a.put o.dst v') w') : wpList Tryz.prog ops Q (o :: rest) a w := by
  obtain ⟨i0, hi0, hz0, hz1, hz2⟩ := info_parts Wt.info
  exact wp_app_rd hgd s x _ ho base _ i0 _ 2 _ Tryz.underlying31 hi0 hz0 hz1 hz2 rfl (by omega) Wt.cells_len Wt.one v n xs hs hown hx hr (by unfold maxLen; omega) (by omega) hbase h
theorem Wt.app_one {w : World} {ops : Array Oper} {rest : List Oper} {o : Oper} {a : Act} {Q : Exit → Act → World → Prop} (hgd : o.guard = none) (s x : Operand)
    (ho : o.op = .call { callee := .builtin .append, args := #[s, x], argTypes := #[31, 31] }) (base : Nat)
    (v : Value) (n : Nat) (xs : List Value) (hs : a.eval s = v) (hown : w.ownsRow base 134 2 v n xs) {g c : Nat} (y : Wt) (hx : a.eval x = .slice (some ⟨g, 0, none⟩) 1 c) (hr : ∀ j u, (Wt.cells y)[j]? = some u → w.cell? ⟨g, j, none⟩ = some u)
    (hlen : n ≤ 4194304) (hbase : base ≤ w.heap.size)
    (h : ∀ v' w', w'.ownsRow base 134 2 v' (n + 1) (xs ++ Wt.cells y) → w.grownBy w' v.ownBlock → wpList Tryz.prog ops Q rest (a.put o.dst v') w') : wpList Tryz.prog ops Q (o :: rest) a w := by
  obtain ⟨i0, hi0, hz0, hz1, hz2⟩ := info_parts Wt.info
  exact wpList_append_own w hgd s x _ ho base _ i0 _ 2 _ Tryz.underlying31 hi0 hz0 hz1 hz2 rfl (by omega) v n xs hs hown ⟨g, 0, none⟩ 1 c (Wt.cells y) hx (by rw [Wt.cells_len]) (fun j u hu => by rw [Go.WideShapes.add_plain, Nat.zero_add]; exact hr j u hu) (Wt.one y) (by unfold maxLen; omega) (by omega) hbase
    fun v' w' h1 h2 _ => h v' w' h1 h2

/-- what marking writes, from k on -/
def Wt.mark (k : Int) : Wt := ⟨k, k + 1⟩
def Wt.markL (k : Int) (n : Nat) : List Wt := (List.range n).map fun (i : Nat) => Wt.mark (k + 2 * i)
theorem Wt.markL_len (k : Int) (n : Nat) : (Wt.markL k n).length = n := by simp [Wt.markL]
theorem Wt.markL_succ (k : Int) (n : Nat) : Wt.markL k (n + 1) = Wt.markL k n ++ [Wt.mark (k + 2 * n)] := by simp [Wt.markL, List.range_succ]

theorem Wt.markS_any (v : Value) (l : List Wt) (w : World) {lo hi : Nat} (h : Ow Wt.cells 2 134 w lo hi v l) (k0 : Int) (h0 : 0 ≤ k0) (h1 : k0 ≤ 1099511627776) (hl : l.length ≤ 1048576) :
    Calls Tryz.prog 110 #[v, .int .i64 k0] w fun e w' => e = .returned (.int .i64 (k0 + 2 * l.length)) ∧ Ow Wt.cells 2 134 w' lo hi v (Wt.markL k0 l.length) ∧ Turned w w' v l.length := by
  obtain ⟨A, n, c, rfl, H, hc, hm⟩ := h.form
  rw [← H.out] at hl ⊢
  go_enter Tryz.func110, Tryz.ntmps110
  go_wp2_with fail
  go_loopw [1, 5] (fun q i wr => ∃ k : Nat, k ≤ n ∧ i = .int .i64 k ∧ q = .int .i64 (k0 + 2 * k) ∧ (0 < n → ∃ g off, A = some ⟨g, off, none⟩ ∧ lo ≤ g ∧ g < hi ∧ Part Wt.cells 2 134 wr g off n (Wt.markL k0 k) ∧ w.grownBy wr (some g)) ∧ (n = 0 → wr = w)) (fun _ i _ => n - (intOf i).toNat)
  case atStart =>
    refine ⟨0, Nat.zero_le _, rfl, by simp, fun hn => ?_, fun _ => rfl⟩
    obtain ⟨g, off, hA, hg1, hg2, hp⟩ := h.part Wt.cells_len (by omega) hn
    exact ⟨g, off, hA, hg1, hg2, by simpa [Wt.markL] using hp, World.grownBy.refl w _⟩
  case round =>
    obtain ⟨k, hk, rfl, rfl, hp, hn0⟩ := hrel
    by_cases hlt : k < n
    · obtain ⟨g, off, rfl, hg1, hg2, hp, hg⟩ := hp (by omega)
      have hfz := hp.frozen
      obtain ⟨⟨o0, g0⟩, ⟨o1, g1⟩⟩ := hp.cell2o hlt
      clear hn0
      go_wp2_with fail
      go_roundw
      case rel =>
        refine ⟨k + 1, by omega, by go_num, by go_num, fun _ => ⟨g, off, rfl, hg1, hg2, ?_, ?_⟩, fun h => by omega⟩
        · rw [Wt.markL_succ]
          exact hp.set (by rw [Wt.markL_len]; exact hlt) _ (Wt.mark (k0 + 2 * k)).cells rfl rfl Wt.cells_len (by rw [Wt.markL_len])
        · exact grown_trans hg (setL_grown (Wt.mark (k0 + 2 * k)).cells wr g (off + k * 2))
      case measure => simp [intOf]; omega
    · have hkn : k = n := by omega
      subst hkn
      go_wp2_with fail
      go_ret
      rcases Nat.eq_zero_or_pos k with hz | hz
      · subst hz
        have hl0 : l = [] := List.eq_nil_of_length_eq_zero H.out.symm
        subst hl0
        rw [hn0 rfl]
        exact ⟨rfl, h, Turned.refl _ _ _⟩
      · obtain ⟨g, off, rfl, hg1, hg2, hp, hg⟩ := hp hz
        exact ⟨rfl, hp.ow (Wt.markL_len _ _) hg1 hg2 hc (by unfold maxLen; omega), ⟨some g, hg, fun g' e => ⟨hz, by simpa [Value.ownBlock] using e⟩⟩⟩
theorem Wt.heldS_any (v : Value) (w : World) {lo hi n : Nat} {k0 : Int} (h : Rd Wt.cells 2 w lo hi v (Wt.markL k0 n)) (h0 : 0 ≤ k0) (h1 : k0 ≤ 1099511627776) (hl : n ≤ 1048576) :
    Calls Tryz.prog 112 #[v, .int .i64 k0] w fun e w' => e = .returned (.int .i64 (k0 + 2 * n)) ∧ w = w' := by
  obtain ⟨A, m, c, rfl, H, hc, hm⟩ := h.form
  have H := H.out
  rw [Wt.markL_len] at H
  subst H
  go_enter Tryz.func112, Tryz.ntmps112
  go_wp2_with fail
  go_loop [1, 5] (fun q i => ∃ k : Nat, k ≤ m ∧ i = .int .i64 k ∧ q = .int .i64 (k0 + 2 * k)) (fun _ i => m - (intOf i).toNat)
  case atStart => exact ⟨0, Nat.zero_le _, rfl, by simp⟩
  case round =>
    obtain ⟨k, hk, rfl, rfl⟩ := hrel
    by_cases hlt : k < m
    · obtain ⟨b, off, t, rfl, ht, _, hbw, f0, f1⟩ := Wt.get h hlt (Below.refl hi w) (Nat.le_refl _)
      have ht := ht.out
      simp only [Wt.markL, List.getElem?_map, List.getElem?_range hlt, Option.map_some, Option.some.injEq] at ht
      subst ht
      simp only [Wt.mark] at f0 f1
      go_wp2_with fail
      go_round
      case rel => exact ⟨k + 1, by omega, by go_num, by go_num⟩
      case measure => simp [intOf]; omega
    · have hkn : k = m := by omega
      subst hkn
      go_wp2_with fail
      go_ret
      exact ⟨rfl, rfl⟩

end Go.Proofs.YtengaccnncnipaaGreat
