/- Lists of 'int': their cells, and what the law text's own helpers do with them. No condition. -/
import Derived.Test.YtengaccnncnipaaGreatBase
namespace Go.Proofs.YtengaccnncnipaaGreat
open Go.RowKit Go.ChangeShapes Go.WideShapes Go.Deep

def Nm.cells (x : Int) : List Value := [.int .i64 x]
theorem Nm.cells_len (x : Int) : (Nm.cells x).length = 1 := rfl
theorem Nm.info : (Tryz.prog.info? 3).map (fun i => (i.zero, i.size, i.bytes)) = some (some (.int .i64 0), 1, 8) := by kernel_rfl
theorem Nm.get {w : World} {lo hi : Nat} {A : Option Addr} {n c k : Nat} {l : List Int} (h : Rd Nm.cells 1 w lo hi (.slice A n c) l) (hk : k < n) {B : Nat} {wr : World} (hb : Below B w wr) (hB : hi ≤ B) :
    ∃ b off t, A = some ⟨b, off, none⟩ ∧ Hid (l[k]? = some t) ∧ lo ≤ b ∧ b < hi ∧ wr.cell? ⟨b, off + k, none⟩ = some (.int .i64 t) := by
  obtain ⟨b, off, t, hA, hx, h1, h2, h3⟩ := h.get hk hb hB
  exact ⟨b, off, t, hA, hx, h1, h2, by simpa using h3 0 _ rfl⟩
def Nm.eqL (a b : List Int) : Bool := decide (a = b)
set_option maxRecDepth 8000 in
theorem Nm.openS {H : Type} {enc : TypeId × Value → H} {w : World} {base : Nat} {spare : Nat → Bool} {held : Bool} {r : Reach} {b0 : Nat} {v : Value} {d : DataW H} {p : List MemPlace}
    (hv : Value.okWide Tryz.prog w r b0 22 v) (h : DataW.Trod enc Tryz.prog w base spare held 22 v d p) : ∃ l : List Int, Rd Nm.cells 1 w 0 w.heap.size v l :=
  open_rd1 (c := fun x => .int .i64 x) Tryz.underlying22 (by kernel_rfl) (fun cs n y hy => by
    obtain ⟨a, e, _⟩ := DataW.trod_int Tryz.underlying3 hy
    exact ⟨a, e⟩) hv h
theorem Nm.szS_any (v : Value) (l : List Int) (w : World) {lo hi : Nat} (h : Rd Nm.cells 1 w lo hi v l) (left : Int) (h0 : 0 ≤ left) (h1 : left ≤ 1048576) : Calls Tryz.prog 50 #[v, .int .i64 left] w fun e w' => e = .returned (.int .i64 (szL left l.length)) ∧ w = w' := by
  obtain ⟨A, n, c, rfl, hn, hc, hm⟩ := h.form
  rw [← hn.out]
  by_cases hlt : left - n < 0
  · have H := Lib.hid (show szL left n = -1 from by simp [szL, hlt])
    go_enter Tryz.func50, Tryz.ntmps50
    go_wp2
    go_ret
    exact ⟨ret_int H.out.symm, rfl⟩
  · have H := Lib.hid (show szL left n = left - n from by simp [szL, hlt])
    go_enter Tryz.func50, Tryz.ntmps50
    go_wp2
    go_ret
    exact ⟨ret_int H.out.symm, rfl⟩
theorem Nm.toS_any (v : Value) (l : List Int) (w : World) {lo hi : Nat} (h : Rd Nm.cells 1 w lo hi v l) (hlo : hi ≤ w.heap.size) (hl : l.length ≤ 1048576) :
    Calls Tryz.prog 55 #[v] w fun e w' => ∃ v', e = .returned v' ∧ Ow Nm.cells 1 3 w' w.heap.size w'.heap.size v' l ∧ Below w.heap.size w w' := by
  obtain ⟨A, n, c, rfl, H, hc, hm⟩ := h.form
  rw [← H.out] at hl
  obtain ⟨i0, hi0, hz0, hz1, hz2⟩ := info_parts Nm.info
  have hmk := make_new (P := Tryz.prog) Tryz.underlying22 hi0 hz0 n hl (by omega)
  rw [hz1] at hmk
  simp only [Nat.mul_one] at hmk
  obtain ⟨cur, hcur, hcs⟩ := heap_made w (Value.cells (.int .i64 0)) n 3
  have hb0 := (Below.refl w.heap.size w).alloc (Nat.le_refl _) (.cells (madeCells (Value.cells (.int .i64 0)) n) 3)
  have hp0 : Part Nm.cells 1 3 _ w.heap.size 0 n [] := Part.start cur hcur (by omega)
  clear hcur hcs
  go_enter Tryz.func55, Tryz.ntmps55
  go_wp2
  simp only [Value.cells] at hb0 hp0
  generalize w.alloc _ = w0 at hb0 hp0 ⊢
  go_loopw [4] (fun i wr => ∃ k : Nat, k ≤ n ∧ i = .int .i64 k ∧ Below w.heap.size w wr ∧ Part Nm.cells 1 3 wr w.heap.size 0 n (l.take k)) (fun i _ => n - (intOf i).toNat)
  case atStart => exact ⟨0, Nat.zero_le _, rfl, hb0, hp0⟩
  case round =>
    clear hb0 hp0
    obtain ⟨k, hk, rfl, hb, hp⟩ := hrel
    by_cases hlt : k < n
    · obtain ⟨b, off, t, rfl, ht, _, hbw, f0⟩ := Nm.get h hlt hb hlo
      have hfz := hp.frozen
      obtain ⟨o0, g0⟩ := hp.cell1 hlt
      go_wp2_with fail
      go_roundw
      case rel =>
        refine ⟨k + 1, by omega, by go_num, setL_below hb (Nm.cells t) w.heap.size k (Nat.le_refl _), ?_⟩
        have hlen : (l.take k).length = k := by rw [List.length_take, ← H.out]; omega
        rw [List.take_add_one, ht.out]
        exact hp.set (by omega) t (Nm.cells t) rfl rfl Nm.cells_len (by rw [hlen]; omega)
      case measure => simp [intOf]; omega
    · go_wp2
      go_ret
      have hkn : k = n := by omega
      subst hkn
      rw [List.take_of_length_le (by rw [← H.out]; omega)] at hp
      exact ⟨_, rfl, hp.ow H.out.symm (Nat.le_refl _) hp.lt (Nat.le_refl _) (by unfold maxLen; omega), hb⟩
theorem Nm.eqS_any (v1 v2 : Value) (l1 l2 : List Int) (w : World) {lo1 hi1 lo2 hi2 : Nat} (h1 : Rd Nm.cells 1 w lo1 hi1 v1 l1) (h2 : Rd Nm.cells 1 w lo2 hi2 v2 l2) (hh1 : hi1 ≤ w.heap.size) (hh2 : hi2 ≤ w.heap.size) :
    Calls Tryz.prog 27 #[v1, v2] w fun e w' => e = .returned (.bool (Nm.eqL l1 l2)) ∧ Below w.heap.size w w' := by
  obtain ⟨A, n, c, rfl, H1, hc1, hm1⟩ := h1.form
  obtain ⟨B, m, d, rfl, H2, hc2, hm2⟩ := h2.form
  by_cases hne : n = m
  · subst hne
    go_enter Tryz.func27, Tryz.ntmps27
    go_wp2_with fail
    go_loopw [5] (fun i wr => ∃ k : Nat, k ≤ n ∧ i = .int .i64 k ∧ Below w.heap.size w wr ∧ l1.take k = l2.take k) (fun i _ => n - (intOf i).toNat)
    case atStart => exact ⟨0, Nat.zero_le _, rfl, Below.refl _ _, rfl⟩
    case round =>
      obtain ⟨k, hk, rfl, hb, he⟩ := hrel
      have HE := Lib.hid he
      clear he
      by_cases hlt : k < n
      · obtain ⟨b, off, x, rfl, hx, _, _, f0⟩ := Nm.get h1 hlt hb hh1
        obtain ⟨b', off', y, rfl, hy, _, _, g0⟩ := Nm.get h2 hlt hb hh2
        by_cases hq : x = y
        · subst hq
          go_wp2_with fail
          go_quiet (fail)
          go_wp2_with fail
          go_roundw
          case rel => exact ⟨k + 1, by omega, by go_num, below_drewN hb _, by rw [List.take_add_one, List.take_add_one, HE.out, hx.out, hy.out]⟩
          case measure => simp [intOf]; omega
        · have hne : l1 ≠ l2 := by
            rintro rfl
            exact hq (Option.some.inj (hx.out.symm.trans hy.out))
          have HF := Lib.hid (show Nm.eqL l1 l2 = false from by simp [Nm.eqL, hne])
          have hq1 : (x == y) = false := by simpa using hq
          have hq2 : (x != y) = true := by simpa using hq
          clear hne
          go_wp2_with fail
          go_quiet (fail)
          go_wp2_with fail
          go_ret
          exact ⟨ret_bool HF.out.symm, below_drewN hb _⟩
      · go_wp2_with fail
        go_ret
        refine ⟨ret_bool ?_, hb⟩
        have he := HE.out
        rw [List.take_of_length_le (by rw [← H1.out]; omega), List.take_of_length_le (by rw [← H2.out]; omega)] at he
        simp [Nm.eqL, he]
  · have HF := Lib.hid (show Nm.eqL l1 l2 = false from by
      have : l1 ≠ l2 := by rintro rfl; exact hne (H1.out.trans H2.out.symm)
      simp [Nm.eqL, this])
    go_enter Tryz.func27, Tryz.ntmps27
    go_wp2_with fail
    go_ret
    exact ⟨ret_bool HF.out.symm, Below.refl _ _⟩
theorem Nm.eqS_same (v1 v2 : Value) (l : List Int) (w : World) {lo1 hi1 lo2 hi2 : Nat} (h1 : Rd Nm.cells 1 w lo1 hi1 v1 l) (h2 : Rd Nm.cells 1 w lo2 hi2 v2 l) (hh1 : hi1 ≤ w.heap.size) (hh2 : hi2 ≤ w.heap.size) :
    Calls Tryz.prog 27 #[v1, v2] w fun e w' => e = .returned (.bool true) ∧ Below w.heap.size w w' := by
  have h := Nm.eqS_any v1 v2 l l w h1 h2 hh1 hh2
  rwa [show Nm.eqL l l = true from by simp [Nm.eqL]] at h

theorem Nm.one (y : Int) (u : Value) (h : u ∈ Nm.cells y) : u.oneCell' = true := by
  simp only [Nm.cells, List.mem_cons, List.not_mem_nil, or_false] at h
  subst h; rfl
theorem Nm.app_rd {w : World} {ops : Array Oper} {rest : List Oper} {o : Oper} {a : Act} {Q : Exit → Act → World → Prop} (hgd : o.guard = none) (s x : Operand)
    (ho : o.op = .call { callee := .builtin .append, args := #[s, x], argTypes := #[22, 22] }) (base : Nat)
    (v : Value) (n : Nat) (xs : List Value) (hs : a.eval s = v) (hown : w.ownsRow base 3 1 v n xs) {lo hi m c : Nat} {A : Option Addr} {l : List Int} (hx : a.eval x = .slice A m c) (hr : Rd Nm.cells 1 w lo hi (.slice A m c) l)
    (hlen : n + m ≤ 4194304) (hbase : base ≤ w.heap.size)
    (h : ∀ v' w', w'.ownsRow base 3 1 v' (n + m) (xs ++ l.flatMap Nm.cells) → w.grownBy w' v.ownBlock → wpList Tryz.prog ops Q rest (a.put o.dst v') w') : wpList Tryz.prog ops Q (o :: rest) a w := by
  obtain ⟨i0, hi0, hz0, hz1, hz2⟩ := info_parts Nm.info
  exact wp_app_rd hgd s x _ ho base _ i0 _ 1 _ Tryz.underlying22 hi0 hz0 hz1 hz2 rfl (by omega) Nm.cells_len Nm.one v n xs hs hown hx hr (by unfold maxLen; omega) (by omega) hbase h
theorem Nm.app_one {w : World} {ops : Array Oper} {rest : List Oper} {o : Oper} {a : Act} {Q : Exit → Act → World → Prop} (hgd : o.guard = none) (s x : Operand)
    (ho : o.op = .call { callee := .builtin .append, args := #[s, x], argTypes := #[22, 22] }) (base : Nat)
    (v : Value) (n : Nat) (xs : List Value) (hs : a.eval s = v) (hown : w.ownsRow base 3 1 v n xs) {g c : Nat} (y : Int) (hx : a.eval x = .slice (some ⟨g, 0, none⟩) 1 c) (hr : ∀ j u, (Nm.cells y)[j]? = some u → w.cell? ⟨g, j, none⟩ = some u)
    (hlen : n ≤ 4194304) (hbase : base ≤ w.heap.size)
    (h : ∀ v' w', w'.ownsRow base 3 1 v' (n + 1) (xs ++ Nm.cells y) → w.grownBy w' v.ownBlock → wpList Tryz.prog ops Q rest (a.put o.dst v') w') : wpList Tryz.prog ops Q (o :: rest) a w := by
  obtain ⟨i0, hi0, hz0, hz1, hz2⟩ := info_parts Nm.info
  exact wpList_append_own w hgd s x _ ho base _ i0 _ 1 _ Tryz.underlying22 hi0 hz0 hz1 hz2 rfl (by omega) v n xs hs hown ⟨g, 0, none⟩ 1 c (Nm.cells y) hx (by rw [Nm.cells_len]) (fun j u hu => by rw [Go.WideShapes.add_plain, Nat.zero_add]; exact hr j u hu) (Nm.one y) (by unfold maxLen; omega) (by omega) hbase
    fun v' w' h1 h2 _ => h v' w' h1 h2

def Nm.mark (k : Int) : Int := k
def Nm.markL (k : Int) (n : Nat) : List Int := (List.range n).map fun (i : Nat) => Nm.mark (k + i)
theorem Nm.markL_len (k : Int) (n : Nat) : (Nm.markL k n).length = n := by simp [Nm.markL]
theorem Nm.markL_succ (k : Int) (n : Nat) : Nm.markL k (n + 1) = Nm.markL k n ++ [Nm.mark (k + n)] := by simp [Nm.markL, List.range_succ]

theorem Nm.markS_any (v : Value) (l : List Int) (w : World) {lo hi : Nat} (h : Ow Nm.cells 1 3 w lo hi v l) (k0 : Int) (h0 : 0 ≤ k0) (h1 : k0 ≤ 1099511627776) (hl : l.length ≤ 1048576) :
    Calls Tryz.prog 30 #[v, .int .i64 k0] w fun e w' => e = .returned (.int .i64 (k0 + l.length)) ∧ Ow Nm.cells 1 3 w' lo hi v (Nm.markL k0 l.length) ∧ Turned w w' v l.length := by
  obtain ⟨A, n, c, rfl, H, hc, hm⟩ := h.form
  rw [← H.out] at hl ⊢
  go_enter Tryz.func30, Tryz.ntmps30
  go_wp2_with fail
  go_loopw [1, 5] (fun q i wr => ∃ k : Nat, k ≤ n ∧ i = .int .i64 k ∧ q = .int .i64 (k0 + k) ∧ (0 < n → ∃ g off, A = some ⟨g, off, none⟩ ∧ lo ≤ g ∧ g < hi ∧ Part Nm.cells 1 3 wr g off n (Nm.markL k0 k) ∧ w.grownBy wr (some g)) ∧ (n = 0 → wr = w)) (fun _ i _ => n - (intOf i).toNat)
  case atStart =>
    refine ⟨0, Nat.zero_le _, rfl, by simp, fun hn => ?_, fun _ => rfl⟩
    obtain ⟨g, off, hA, hg1, hg2, hp⟩ := h.part Nm.cells_len (by omega) hn
    exact ⟨g, off, hA, hg1, hg2, by simpa [Nm.markL] using hp, World.grownBy.refl w _⟩
  case round =>
    obtain ⟨k, hk, rfl, rfl, hp, hn0⟩ := hrel
    by_cases hlt : k < n
    · obtain ⟨g, off, rfl, hg1, hg2, hp, hg⟩ := hp (by omega)
      have hfz := hp.frozen
      obtain ⟨o0, g0⟩ := hp.cell1o hlt
      clear hn0
      go_wp2_with fail
      go_roundw
      case rel =>
        refine ⟨k + 1, by omega, by go_num, by go_num, fun _ => ⟨g, off, rfl, hg1, hg2, ?_, ?_⟩, fun h => by omega⟩
        · rw [Nm.markL_succ]
          exact hp.set (by rw [Nm.markL_len]; exact hlt) _ (Nm.cells (Nm.mark (k0 + k))) rfl rfl Nm.cells_len (by rw [Nm.markL_len]; omega)
        · exact grown_trans hg (setL_grown (Nm.cells (Nm.mark (k0 + k))) wr g (off + k))
      case measure => simp [intOf]; omega
    · have hkn : k = n := by omega
      subst hkn
      go_wp2_with fail
      go_ret
      rcases Nat.eq_zero_or_pos k with hz | hz
      · subst hz
        have hl0 : l = [] := List.eq_nil_of_length_eq_zero H.out.symm
        subst hl0
        rw [hn0 rfl]
        exact ⟨rfl, h, Turned.refl _ _ _⟩
      · obtain ⟨g, off, rfl, hg1, hg2, hp, hg⟩ := hp hz
        exact ⟨rfl, hp.ow (Nm.markL_len _ _) hg1 hg2 hc (by unfold maxLen; omega), ⟨some g, hg, fun g' e => ⟨hz, by simpa [Value.ownBlock] using e⟩⟩⟩
theorem Nm.heldS_any (v : Value) (w : World) {lo hi n : Nat} {k0 : Int} (h : Rd Nm.cells 1 w lo hi v (Nm.markL k0 n)) (h0 : 0 ≤ k0) (h1 : k0 ≤ 1099511627776) (hl : n ≤ 1048576) :
    Calls Tryz.prog 31 #[v, .int .i64 k0] w fun e w' => e = .returned (.int .i64 (k0 + n)) ∧ w = w' := by
  obtain ⟨A, m, c, rfl, H, hc, hm⟩ := h.form
  have H := H.out
  rw [Nm.markL_len] at H
  subst H
  go_enter Tryz.func31, Tryz.ntmps31
  go_wp2_with fail
  go_loop [1, 5] (fun q i => ∃ k : Nat, k ≤ m ∧ i = .int .i64 k ∧ q = .int .i64 (k0 + k)) (fun _ i => m - (intOf i).toNat)
  case atStart => exact ⟨0, Nat.zero_le _, rfl, by simp⟩
  case round =>
    obtain ⟨k, hk, rfl, rfl⟩ := hrel
    by_cases hlt : k < m
    · obtain ⟨b, off, t, rfl, ht, _, hbw, f0⟩ := Nm.get h hlt (Below.refl hi w) (Nat.le_refl _)
      have ht := ht.out
      simp only [Nm.markL, List.getElem?_map, List.getElem?_range hlt, Option.map_some, Option.some.injEq] at ht
      subst ht
      simp only [Nm.mark] at f0
      go_wp2_with fail
      go_round
      case rel => exact ⟨k + 1, by omega, by go_num, by go_num⟩
      case measure => simp [intOf]; omega
    · have hkn : k = m := by omega
      subst hkn
      go_wp2_with fail
      go_ret
      exact ⟨rfl, rfl⟩

end Go.Proofs.YtengaccnncnipaaGreat
