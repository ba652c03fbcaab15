/- The type 'Irq' of the law text and of the program: its data, its cells, and what the law text's own helpers do with lists of it. No condition. -/
import Derived.Test.YtleoicpbnodklaaBase
namespace Go.Proofs.Ytleoicpbnodklaa
open Go.RowKit Go.ChangeShapes Go.WideShapes Go.Deep

structure Iq where
  enabled : Bool
  pending : Bool
  active : Bool
  prio : Int
  target : Int
  deriving DecidableEq, Inhabited

def Iq.cells (t : Iq) : List Value := [.bool t.enabled, .bool t.pending, .bool t.active, .int .i64 t.prio, .int .i64 t.target]
def Iq.val (t : Iq) : Value := .agg #[.bool t.enabled, .bool t.pending, .bool t.active, .int .i64 t.prio, .int .i64 t.target]
def Iq.zero : Iq := ⟨false, false, false, 0, 0⟩
theorem Iq.cells_len (t : Iq) : t.cells.length = 5 := rfl
theorem Iq.info : (Try.prog.info? 50).map (fun i => (i.zero, i.size, i.bytes)) = some (some (.agg #[.bool false, .bool false, .bool false, .int .i64 0, .int .i64 0]), 5, 24) := by kernel_rfl
theorem Iq.get {w : World} {lo hi : Nat} {A : Option Addr} {n c k : Nat} {l : List Iq} (h : Rd Iq.cells 5 w lo hi (.slice A n c) l) (hk : k < n) {B : Nat} {wr : World} (hb : Below B w wr) (hB : hi ≤ B) :
    ∃ b off t, A = some ⟨b, off, none⟩ ∧ Hid (l[k]? = some t) ∧ lo ≤ b ∧ b < hi ∧ wr.cell? ⟨b, off + k * 5, none⟩ = some (.bool t.enabled) ∧ wr.cell? ⟨b, off + k * 5 + 1, none⟩ = some (.bool t.pending) ∧ wr.cell? ⟨b, off + k * 5 + 2, none⟩ = some (.bool t.active) ∧ wr.cell? ⟨b, off + k * 5 + 3, none⟩ = some (.int .i64 t.prio) ∧ wr.cell? ⟨b, off + k * 5 + 4, none⟩ = some (.int .i64 t.target) := by
  obtain ⟨b, off, t, hA, hx, h1, h2, h3⟩ := h.get hk hb hB
  exact ⟨b, off, t, hA, hx, h1, h2, h3 0 _ rfl, h3 1 _ rfl, h3 2 _ rfl, h3 3 _ rfl, h3 4 _ rfl⟩
def Iq.eqB (x y : Iq) : Bool := x.enabled == y.enabled && (x.pending == y.pending && (x.active == y.active && (x.prio == y.prio && (x.target == y.target))))
theorem Iq.eqB_iff (x y : Iq) : x.eqB y = true ↔ x = y := by
  cases x; cases y; simp [Iq.eqB]
def Iq.eqL (a b : List Iq) : Bool := decide (a = b)
theorem Iq.cellsOfLaw : Try.prog.cellsOf 61 = 5 := by kernel_rfl
theorem Iq.openS {H : Type} {enc : TypeId × Value → H} {w : World} {base : Nat} {spare : Nat → Bool} {held : Bool} {r : Reach} {b0 : Nat} {v : Value} {d : DataW H} {p : List MemPlace}
    (hv : Value.okWide Try.prog w r b0 22 v) (h : DataW.Trod enc Try.prog w base spare held 22 v d p) : ∃ l : List Iq, Rd Iq.cells 5 w 0 w.heap.size v l :=
  open_rd (by omega) Iq.cells_len Try.underlying22 Try.underlying61 (by kernel_rfl) Iq.cellsOfLaw rfl (fun V hV => by
    obtain ⟨n0, y0, h0⟩ := hV 0 _ rfl
    obtain ⟨a0, e0, _⟩ := DataW.trod_bool Try.underlying4 h0
    simp only [List.cons.injEq, and_true] at e0
    obtain ⟨n1, y1, h1⟩ := hV 1 _ rfl
    obtain ⟨a1, e1, _⟩ := DataW.trod_bool Try.underlying4 h1
    simp only [List.cons.injEq, and_true] at e1
    obtain ⟨n2, y2, h2⟩ := hV 2 _ rfl
    obtain ⟨a2, e2, _⟩ := DataW.trod_bool Try.underlying4 h2
    simp only [List.cons.injEq, and_true] at e2
    obtain ⟨n3, y3, h3⟩ := hV 3 _ rfl
    obtain ⟨a3, e3, _⟩ := DataW.trod_int Try.underlying3 h3
    simp only [List.cons.injEq, and_true] at e3
    obtain ⟨n4, y4, h4⟩ := hV 4 _ rfl
    obtain ⟨a4, e4, _⟩ := DataW.trod_int Try.underlying3 h4
    simp only [List.cons.injEq, and_true] at e4
    refine ⟨⟨a0, a1, a2, a3, a4⟩, fun j u hu => ?_⟩
    match j with
    | 0 => rw [e0]; exact (Option.some.inj hu).symm
    | 1 => rw [e1]; exact (Option.some.inj hu).symm
    | 2 => rw [e2]; exact (Option.some.inj hu).symm
    | 3 => rw [e3]; exact (Option.some.inj hu).symm
    | 4 => rw [e4]; exact (Option.some.inj hu).symm
    | j + 5 => simp [Iq.cells] at hu) hv h

theorem Iq.index_any (g : FuncId) (lb : Array Value) (p : Iq → Bool) (v : Value) (l : List Iq) (w : World) {lo hi : Nat} (h : Rd Iq.cells 5 w lo hi v l) (hh : hi ≤ w.heap.size)
    (eg : ∀ args w, (callFunc g args).run Try.prog w = .ok (.enter g args) w)
    (hp : ∀ (t : Iq) (W : World), t ∈ l → Below w.heap.size w W → Calls Try.prog g (#[t.val] ++ lb) W fun e w' => e = .returned (.bool (p t)) ∧ Below W.heap.size W w') :
    Calls Try.prog 89 #[v, .func (.func g) #[] lb] w fun e w' => e = .returned (.int .i64 (findIx p l)) ∧ Below w.heap.size w w' := by
  obtain ⟨A, n, c, rfl, H, hc, hm⟩ := h.form
  unfold Iq.val at hp
  have HP := Lib.hid hp
  clear hp
  go_enter Try.func89, Try.ntmps89
  go_wp2_with fail
  go_loopw [8] (fun i wr => ∃ k : Nat, k ≤ n ∧ i = .int .i64 k ∧ Below w.heap.size w wr ∧ (l.take k).any p = false) (fun i _ => n - (intOf i).toNat)
  case atStart => exact ⟨0, Nat.zero_le _, rfl, Below.refl _ _, by simp⟩
  case round =>
    obtain ⟨k, hk, rfl, hb, he⟩ := hrel
    have HE := Lib.hid he
    clear he
    by_cases hlt : k < n
    · obtain ⟨b, off, x, rfl, hx, _, _, f0, f1, f2, f3, f4⟩ := Iq.get h hlt hb hh
      have c1 := HP.out x wr (List.mem_of_getElem? hx.out) hb
      cases hq : p x
      · rw [hq] at c1
        have HF := Lib.hid hq
        clear hq
        go_wp2_with fail
        refine c1.mono ?_; rintro e w1 ⟨rfl, hb1⟩
        go_wp2_with fail
        go_roundw
        case rel => exact ⟨k + 1, by omega, by go_num, hb.trans (hb1.mono hb.size), by rw [List.take_add_one, List.any_append, HE.out, hx.out]; simp [HF.out]⟩
        case measure => simp [intOf]; omega
      · rw [hq] at c1
        have HF := Lib.hid (findIx_hit HE.out hx.out hq)
        clear hq
        go_wp2_with fail
        refine c1.mono ?_; rintro e w1 ⟨rfl, hb1⟩
        go_wp2_with fail
        go_ret
        exact ⟨ret_int HF.out.symm, hb.trans (hb1.mono hb.size)⟩
    · go_wp2_with fail
      go_ret
      have he := HE.out
      rw [List.take_of_length_le (by rw [← H.out]; omega)] at he
      exact ⟨ret_int (by simp [findIx, he]), hb⟩
theorem Iq.contains_any (g : FuncId) (lb : Array Value) (p : Iq → Bool) (v : Value) (l : List Iq) (w : World) {lo hi : Nat} (h : Rd Iq.cells 5 w lo hi v l) (hh : hi ≤ w.heap.size)
    (eg : ∀ args w, (callFunc g args).run Try.prog w = .ok (.enter g args) w)
    (hp : ∀ (t : Iq) (W : World), t ∈ l → Below w.heap.size w W → Calls Try.prog g (#[t.val] ++ lb) W fun e w' => e = .returned (.bool (p t)) ∧ Below W.heap.size W w') :
    Calls Try.prog 79 #[v, .func (.func g) #[] lb] w fun e w' => e = .returned (.bool (l.any p)) ∧ Below w.heap.size w w' := by
  have c1 := Iq.index_any g lb p v l w h hh eg hp
  clear hp
  have hs := findIx_nonneg p l
  generalize findIx p l = i at c1 hs
  cases hq : l.any p
  · rw [hq] at hs
    have hs : ¬ 0 ≤ i := by simpa using hs
    go_enter Try.func79, Try.ntmps79
    go_wp2_with fail
    refine c1.mono ?_; rintro e w1 ⟨rfl, hb1⟩
    go_wp2_with fail
    go_ret
    exact ⟨ret_bool (by simp), hb1⟩
  · rw [hq] at hs
    have hs : 0 ≤ i := by simpa using hs
    go_enter Try.func79, Try.ntmps79
    go_wp2_with fail
    refine c1.mono ?_; rintro e w1 ⟨rfl, hb1⟩
    go_wp2_with fail
    go_ret
    exact ⟨ret_bool (by simp), hb1⟩

theorem Iq.to_any (t : Iq) (w : World) : Calls Try.prog 53 #[t.val] w fun e w' => e = .returned t.val ∧ Below w.heap.size w w' := by
  unfold Iq.val
  go_enter Try.func53, Try.ntmps53
  go_wp2
  go_returns
  exact ⟨rfl, by go_grown⟩
theorem Iq.eq_any (x y : Iq) (w : World) : Calls Try.prog 57 #[x.val, y.val] w fun e w' => e = .returned (.bool (x.eqB y)) ∧ Below w.heap.size w w' := by
  unfold Iq.val
  go_enter Try.func57, Try.ntmps57
  go_wp2
  all_goals (go_ret; exact ⟨ret_bool (by simp_all [Iq.eqB]), by go_grown⟩)
theorem Iq.szS_any (v : Value) (l : List Iq) (w : World) {lo hi : Nat} (h : Rd Iq.cells 5 w lo hi v l) (left : Int) (h0 : 0 ≤ left) (h1 : left ≤ 1048576) : Calls Try.prog 12 #[v, .int .i64 left] w fun e w' => e = .returned (.int .i64 (szL left l.length)) ∧ w = w' := by
  obtain ⟨A, n, c, rfl, hn, hc, hm⟩ := h.form
  rw [← hn.out]
  by_cases hlt : left - n < 0
  · have H := Lib.hid (show szL left n = -1 from by simp [szL, hlt])
    go_enter Try.func12, Try.ntmps12
    go_wp2
    go_ret
    exact ⟨ret_int H.out.symm, rfl⟩
  · have H := Lib.hid (show szL left n = left - n from by simp [szL, hlt])
    go_enter Try.func12, Try.ntmps12
    go_wp2
    go_ret
    exact ⟨ret_int H.out.symm, rfl⟩
theorem Iq.toS_any (v : Value) (l : List Iq) (w : World) {lo hi : Nat} (h : Rd Iq.cells 5 w lo hi v l) (hlo : hi ≤ w.heap.size) (hl : l.length ≤ 1048576) :
    Calls Try.prog 14 #[v] w fun e w' => ∃ v', e = .returned v' ∧ Ow Iq.cells 5 50 w' w.heap.size w'.heap.size v' l ∧ Below w.heap.size w w' := by
  obtain ⟨A, n, c, rfl, H, hc, hm⟩ := h.form
  rw [← H.out] at hl
  obtain ⟨i0, hi0, hz0, hz1, hz2⟩ := info_parts Iq.info
  have hmk := make_new (P := Try.prog) Try.underlying24 hi0 hz0 n hl (by omega)
  rw [hz1] at hmk
  have c1 := fun t => Iq.to_any t
  unfold Iq.val at c1
  obtain ⟨cur, hcur, hcs⟩ := heap_made w (Value.agg #[.bool false, .bool false, .bool false, .int .i64 0, .int .i64 0]).cells (n * 5) 50
  have hb0 := (Below.refl w.heap.size w).alloc (Nat.le_refl _) (.cells (madeCells (Value.agg #[.bool false, .bool false, .bool false, .int .i64 0, .int .i64 0]).cells (n * 5)) 50)
  have hp0 : Part Iq.cells 5 50 _ w.heap.size 0 n [] := Part.start cur hcur (by omega)
  clear hcur hcs
  go_enter Try.func14, Try.ntmps14
  go_wp2
  simp only [Value.cells] at hb0 hp0
  generalize w.alloc _ = w0 at hb0 hp0 ⊢
  go_loopw [4] (fun i wr => ∃ k : Nat, k ≤ n ∧ i = .int .i64 k ∧ Below w.heap.size w wr ∧ Part Iq.cells 5 50 wr w.heap.size 0 n (l.take k)) (fun i _ => n - (intOf i).toNat)
  case atStart => exact ⟨0, Nat.zero_le _, rfl, hb0, hp0⟩
  case round =>
    clear hb0 hp0
    obtain ⟨k, hk, rfl, hb, hp⟩ := hrel
    by_cases hlt : k < n
    · obtain ⟨b, off, t, rfl, ht, _, hbw, f0, f1, f2, f3, f4⟩ := Iq.get h hlt hb hlo
      go_wp2_with (go_at_call 53; refine (c1 t _).mono ?_; rintro e w1 ⟨rfl, hb1⟩; have hp1 := hp.below hb1; have hfz := hp1.frozen; obtain ⟨⟨o0, g0⟩, ⟨o1, g1⟩, ⟨o2, g2⟩, ⟨o3, g3⟩, ⟨o4, g4⟩⟩ := hp1.cell5 hlt)
      go_roundw
      case rel =>
        refine ⟨k + 1, by omega, by go_num, setL_below (hb.trans (hb1.mono hb.size)) t.cells w.heap.size (k * 5) (Nat.le_refl _), ?_⟩
        have hlen : (l.take k).length = k := by rw [List.length_take, ← H.out]; omega
        rw [List.take_add_one, ht.out]
        exact hp1.set (by omega) t t.cells rfl rfl Iq.cells_len (by rw [hlen]; omega)
      case measure => simp [intOf]; omega
    · go_wp2
      go_ret
      have hkn : k = n := by omega
      subst hkn
      rw [List.take_of_length_le (by rw [← H.out]; omega)] at hp
      exact ⟨_, rfl, hp.ow H.out.symm (Nat.le_refl _) hp.lt (Nat.le_refl _) (by unfold maxLen; omega), hb⟩
theorem Iq.eqS_any (v1 v2 : Value) (l1 l2 : List Iq) (w : World) {lo1 hi1 lo2 hi2 : Nat} (h1 : Rd Iq.cells 5 w lo1 hi1 v1 l1) (h2 : Rd Iq.cells 5 w lo2 hi2 v2 l2) (hh1 : hi1 ≤ w.heap.size) (hh2 : hi2 ≤ w.heap.size) :
    Calls Try.prog 16 #[v1, v2] w fun e w' => e = .returned (.bool (Iq.eqL l1 l2)) ∧ Below w.heap.size w w' := by
  obtain ⟨A, n, c, rfl, H1, hc1, hm1⟩ := h1.form
  obtain ⟨B, m, d, rfl, H2, hc2, hm2⟩ := h2.form
  have c1 := fun a b => Iq.eq_any a b
  unfold Iq.val at c1
  by_cases hne : n = m
  · subst hne
    go_enter Try.func16, Try.ntmps16
    go_wp2_with fail
    go_loopw [5] (fun i wr => ∃ k : Nat, k ≤ n ∧ i = .int .i64 k ∧ Below w.heap.size w wr ∧ l1.take k = l2.take k) (fun i _ => n - (intOf i).toNat)
    case atStart => exact ⟨0, Nat.zero_le _, rfl, Below.refl _ _, rfl⟩
    case round =>
      obtain ⟨k, hk, rfl, hb, he⟩ := hrel
      have HE := Lib.hid he
      clear he
      by_cases hlt : k < n
      · obtain ⟨b, off, x, rfl, hx, _, _, f0, f1, f2, f3, f4⟩ := Iq.get h1 hlt hb hh1
        obtain ⟨b', off', y, rfl, hy, _, _, g0, g1, g2, g3, g4⟩ := Iq.get h2 hlt hb hh2
        cases hq : x.eqB y
        · have c1 := c1 x y
          rw [hq] at c1
          have hne : l1 ≠ l2 := by
            rintro rfl
            have : x = y := Option.some.inj (hx.out.symm.trans hy.out)
            rw [(Iq.eqB_iff x y).2 this] at hq
            cases hq
          have HF := Lib.hid (show Iq.eqL l1 l2 = false from by simp [Iq.eqL, hne])
          clear hne hq
          go_wp2_with fail
          go_region_with (go_at_call 57; refine (c1 _).mono ?_; rintro e w1 ⟨rfl, hb1⟩)
          all_goals
            go_wp2_with fail
            go_ret
            exact ⟨ret_bool HF.out.symm, hb.drew.trans (hb1.mono hb.size)⟩
        · have c1 := c1 x y
          rw [hq] at c1
          have HF := Lib.hid ((Iq.eqB_iff x y).1 hq)
          clear hq
          go_wp2_with fail
          go_region_with (go_at_call 57; refine (c1 _).mono ?_; rintro e w1 ⟨rfl, hb1⟩)
          all_goals
            go_wp2_with fail
            go_roundw
            case rel => exact ⟨k + 1, by omega, by go_num, hb.drew.trans (hb1.mono hb.size), by rw [List.take_add_one, List.take_add_one, HE.out, hx.out, hy.out, HF.out]⟩
            case measure => simp [intOf]; omega
      · go_wp2_with fail
        go_ret
        refine ⟨ret_bool ?_, hb⟩
        have he := HE.out
        rw [List.take_of_length_le (by rw [← H1.out]; omega), List.take_of_length_le (by rw [← H2.out]; omega)] at he
        simp [Iq.eqL, he]
  · have HF := Lib.hid (show Iq.eqL l1 l2 = false from by
      have : l1 ≠ l2 := by rintro rfl; exact hne (H1.out.trans H2.out.symm)
      simp [Iq.eqL, this])
    go_enter Try.func16, Try.ntmps16
    go_wp2_with fail
    go_ret
    exact ⟨ret_bool HF.out.symm, Below.refl _ _⟩
theorem Iq.eqS_same (v1 v2 : Value) (l : List Iq) (w : World) {lo1 hi1 lo2 hi2 : Nat} (h1 : Rd Iq.cells 5 w lo1 hi1 v1 l) (h2 : Rd Iq.cells 5 w lo2 hi2 v2 l) (hh1 : hi1 ≤ w.heap.size) (hh2 : hi2 ≤ w.heap.size) :
    Calls Try.prog 16 #[v1, v2] w fun e w' => e = .returned (.bool true) ∧ Below w.heap.size w w' := by
  have h := Iq.eqS_any v1 v2 l l w h1 h2 hh1 hh2
  rwa [show Iq.eqL l l = true from by simp [Iq.eqL]] at h

theorem Iq.one (y : Iq) (u : Value) (h : u ∈ Iq.cells y) : u.oneCell' = true := by
  simp only [Iq.cells, List.mem_cons, List.not_mem_nil, or_false] at h
  rcases h with rfl | rfl | rfl | rfl | rfl <;> rfl
theorem Iq.app_rd {w : World} {ops : Array Oper} {rest : List Oper} {o : Oper} {a : Act} {Q : Exit → Act → World → Prop} (hgd : o.guard = none) (s x : Operand)
    (ho : o.op = .call { callee := .builtin .append, args := #[s, x], argTypes := #[24, 24] }) (base : Nat)
    (v : Value) (n : Nat) (xs : List Value) (hs : a.eval s = v) (hown : w.ownsRow base 50 5 v n xs) {lo hi m c : Nat} {A : Option Addr} {l : List Iq} (hx : a.eval x = .slice A m c) (hr : Rd Iq.cells 5 w lo hi (.slice A m c) l)
    (hlen : n + m ≤ 4194304) (hbase : base ≤ w.heap.size)
    (h : ∀ v' w', w'.ownsRow base 50 5 v' (n + m) (xs ++ l.flatMap Iq.cells) → w.grownBy w' v.ownBlock → wpList Try.prog ops Q rest (a.put o.dst v') w') : wpList Try.prog ops Q (o :: rest) a w := by
  obtain ⟨i0, hi0, hz0, hz1, hz2⟩ := info_parts Iq.info
  exact wp_app_rd hgd s x _ ho base _ i0 _ 5 _ Try.underlying24 hi0 hz0 hz1 hz2 rfl (by omega) Iq.cells_len Iq.one v n xs hs hown hx hr (by unfold maxLen; omega) (by omega) hbase h
theorem Iq.app_one {w : World} {ops : Array Oper} {rest : List Oper} {o : Oper} {a : Act} {Q : Exit → Act → World → Prop} (hgd : o.guard = none) (s x : Operand)
    (ho : o.op = .call { callee := .builtin .append, args := #[s, x], argTypes := #[24, 24] }) (base : Nat)
    (v : Value) (n : Nat) (xs : List Value) (hs : a.eval s = v) (hown : w.ownsRow base 50 5 v n xs) {g c : Nat} (y : Iq) (hx : a.eval x = .slice (some ⟨g, 0, none⟩) 1 c) (hr : ∀ j u, (Iq.cells y)[j]? = some u → w.cell? ⟨g, j, none⟩ = some u)
    (hlen : n ≤ 4194304) (hbase : base ≤ w.heap.size)
    (h : ∀ v' w', w'.ownsRow base 50 5 v' (n + 1) (xs ++ Iq.cells y) → w.grownBy w' v.ownBlock → wpList Try.prog ops Q rest (a.put o.dst v') w') : wpList Try.prog ops Q (o :: rest) a w := by
  obtain ⟨i0, hi0, hz0, hz1, hz2⟩ := info_parts Iq.info
  exact wpList_append_own w hgd s x _ ho base _ i0 _ 5 _ Try.underlying24 hi0 hz0 hz1 hz2 rfl (by omega) v n xs hs hown ⟨g, 0, none⟩ 1 c (Iq.cells y) hx (by rw [Iq.cells_len]) (fun j u hu => by rw [Go.WideShapes.add_plain, Nat.zero_add]; exact hr j u hu) (Iq.one y) (by unfold maxLen; omega) (by omega) hbase
    fun v' w' h1 h2 _ => h v' w' h1 h2

/-- what marking writes, from k on -/
def Iq.mark (k : Int) : Iq := ⟨k % 3 == 0, (k + 1) % 3 == 0, (k + 1 + 1) % 3 == 0, k + 1 + 1 + 1, k + 1 + 1 + 1 + 1⟩
def Iq.markL (k : Int) (n : Nat) : List Iq := (List.range n).map fun (i : Nat) => Iq.mark (k + 5 * i)
theorem Iq.markL_len (k : Int) (n : Nat) : (Iq.markL k n).length = n := by simp [Iq.markL]
theorem Iq.markL_succ (k : Int) (n : Nat) : Iq.markL k (n + 1) = Iq.markL k n ++ [Iq.mark (k + 5 * n)] := by simp [Iq.markL, List.range_succ]

theorem Iq.markS_any (v : Value) (l : List Iq) (w : World) {lo hi : Nat} (h : Ow Iq.cells 5 50 w lo hi v l) (k0 : Int) (h0 : 0 ≤ k0) (h1 : k0 ≤ 1099511627776) (hl : l.length ≤ 1048576) :
    Calls Try.prog 17 #[v, .int .i64 k0] w fun e w' => e = .returned (.int .i64 (k0 + 5 * l.length)) ∧ Ow Iq.cells 5 50 w' lo hi v (Iq.markL k0 l.length) ∧ Turned w w' v l.length := by
  obtain ⟨A, n, c, rfl, H, hc, hm⟩ := h.form
  rw [← H.out] at hl ⊢
  go_enter Try.func17, Try.ntmps17
  go_wp2_with fail
  go_loopw [1, 5] (fun q i wr => ∃ k : Nat, k ≤ n ∧ i = .int .i64 k ∧ q = .int .i64 (k0 + 5 * k) ∧ (0 < n → ∃ g off, A = some ⟨g, off, none⟩ ∧ lo ≤ g ∧ g < hi ∧ Part Iq.cells 5 50 wr g off n (Iq.markL k0 k) ∧ w.grownBy wr (some g)) ∧ (n = 0 → wr = w)) (fun _ i _ => n - (intOf i).toNat)
  case atStart =>
    refine ⟨0, Nat.zero_le _, rfl, by simp, fun hn => ?_, fun _ => rfl⟩
    obtain ⟨g, off, hA, hg1, hg2, hp⟩ := h.part Iq.cells_len (by omega) hn
    exact ⟨g, off, hA, hg1, hg2, by simpa [Iq.markL] using hp, World.grownBy.refl w _⟩
  case round =>
    obtain ⟨k, hk, rfl, rfl, hp, hn0⟩ := hrel
    by_cases hlt : k < n
    · obtain ⟨g, off, rfl, hg1, hg2, hp, hg⟩ := hp (by omega)
      have hfz := hp.frozen
      obtain ⟨⟨o0, g0⟩, ⟨o1, g1⟩, ⟨o2, g2⟩, ⟨o3, g3⟩, ⟨o4, g4⟩⟩ := hp.cell5o hlt
      clear hn0
      go_wp2_with fail
      go_roundw
      case rel =>
        refine ⟨k + 1, by omega, by go_num, by go_num, fun _ => ⟨g, off, rfl, hg1, hg2, ?_, ?_⟩, fun h => by omega⟩
        · rw [Iq.markL_succ]
          exact hp.set (by rw [Iq.markL_len]; exact hlt) _ (Iq.mark (k0 + 5 * k)).cells rfl rfl Iq.cells_len (by rw [Iq.markL_len])
        · exact grown_trans hg (setL_grown (Iq.mark (k0 + 5 * k)).cells wr g (off + k * 5))
      case measure => simp [intOf]; omega
    · have hkn : k = n := by omega
      subst hkn
      go_wp2_with fail
      go_ret
      rcases Nat.eq_zero_or_pos k with hz | hz
      · subst hz
        have hl0 : l = [] := List.eq_nil_of_length_eq_zero H.out.symm
        subst hl0
        rw [hn0 rfl]
        exact ⟨rfl, h, Turned.refl _ _ _⟩
      · obtain ⟨g, off, rfl, hg1, hg2, hp, hg⟩ := hp hz
        exact ⟨rfl, hp.ow (Iq.markL_len _ _) hg1 hg2 hc (by unfold maxLen; omega), ⟨some g, hg, fun g' e => ⟨hz, by simpa [Value.ownBlock] using e⟩⟩⟩
theorem Iq.heldS_any (v : Value) (w : World) {lo hi n : Nat} {k0 : Int} (h : Rd Iq.cells 5 w lo hi v (Iq.markL k0 n)) (h0 : 0 ≤ k0) (h1 : k0 ≤ 1099511627776) (hl : n ≤ 1048576) :
    Calls Try.prog 18 #[v, .int .i64 k0] w fun e w' => e = .returned (.int .i64 (k0 + 5 * n)) ∧ w = w' := by
  obtain ⟨A, m, c, rfl, H, hc, hm⟩ := h.form
  have H := H.out
  rw [Iq.markL_len] at H
  subst H
  go_enter Try.func18, Try.ntmps18
  go_wp2_with fail
  go_loop [1, 5] (fun q i => ∃ k : Nat, k ≤ m ∧ i = .int .i64 k ∧ q = .int .i64 (k0 + 5 * k)) (fun _ i => m - (intOf i).toNat)
  case atStart => exact ⟨0, Nat.zero_le _, rfl, by simp⟩
  case round =>
    obtain ⟨k, hk, rfl, rfl⟩ := hrel
    by_cases hlt : k < m
    · obtain ⟨b, off, t, rfl, ht, _, hbw, f0, f1, f2, f3, f4⟩ := Iq.get h hlt (Below.refl hi w) (Nat.le_refl _)
      have ht := ht.out
      simp only [Iq.markL, List.getElem?_map, List.getElem?_range hlt, Option.map_some, Option.some.injEq] at ht
      subst ht
      simp only [Iq.mark] at f0 f1 f2 f3 f4
      go_wp2_with fail
      go_round
      case rel => exact ⟨k + 1, by omega, by go_num, by go_num⟩
      case measure => simp [intOf]; omega
    · have hkn : k = m := by omega
      subst hkn
      go_wp2_with fail
      go_ret
      exact ⟨rfl, rfl⟩

end Go.Proofs.Ytleoicpbnodklaa
