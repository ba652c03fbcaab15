/- Lists of 'bool': their cells, and what the law text's own helpers do with them. No condition. -/
import Derived.Test.YtljliknibnookaaBase
namespace Go.Proofs.Ytljliknibnookaa
open Go.RowKit Go.ChangeShapes Go.WideShapes Go.Deep

def Bo.cells (x : Bool) : List Value := [.bool x]
theorem Bo.cells_len (x : Bool) : (Bo.cells x).length = 1 := rfl
theorem Bo.info : (Try.prog.info? 4).map (fun i => (i.zero, i.size, i.bytes)) = some (some (.bool false), 1, 1) := by kernel_rfl
theorem Bo.get {w : World} {lo hi : Nat} {A : Option Addr} {n c k : Nat} {l : List Bool} (h : Rd Bo.cells 1 w lo hi (.slice A n c) l) (hk : k < n) {B : Nat} {wr : World} (hb : Below B w wr) (hB : hi ≤ B) :
    ∃ b off t, A = some ⟨b, off, none⟩ ∧ Hid (l[k]? = some t) ∧ lo ≤ b ∧ b < hi ∧ wr.cell? ⟨b, off + k, none⟩ = some (.bool t) := by
  obtain ⟨b, off, t, hA, hx, h1, h2, h3⟩ := h.get hk hb hB
  exact ⟨b, off, t, hA, hx, h1, h2, by simpa using h3 0 _ rfl⟩
def Bo.eqL (a b : List Bool) : Bool := decide (a = b)
theorem Bo.openS {H : Type} {enc : TypeId × Value → H} {w : World} {base : Nat} {spare : Nat → Bool} {held : Bool} {r : Reach} {b0 : Nat} {v : Value} {d : DataW H} {p : List MemPlace}
    (hv : Value.okWide Try.prog w r b0 52 v) (h : DataW.Trod enc Try.prog w base spare held 52 v d p) : ∃ l : List Bool, Rd Bo.cells 1 w 0 w.heap.size v l :=
  open_rd1 (c := fun x => .bool x) Try.underlying52 (by kernel_rfl) (fun cs n y hy => by
    obtain ⟨a, e, _⟩ := DataW.trod_bool Try.underlying4 hy
    exact ⟨a, e⟩) hv h
theorem Bo.toS_any (v : Value) (l : List Bool) (w : World) {lo hi : Nat} (h : Rd Bo.cells 1 w lo hi v l) (hlo : hi ≤ w.heap.size) (hl : l.length ≤ 1048576) :
    Calls Try.prog 44 #[v] w fun e w' => ∃ v', e = .returned v' ∧ Ow Bo.cells 1 4 w' w.heap.size w'.heap.size v' l ∧ Below w.heap.size w w' := by
  obtain ⟨A, n, c, rfl, H, hc, hm⟩ := h.form
  rw [← H.out] at hl
  obtain ⟨i0, hi0, hz0, hz1, hz2⟩ := info_parts Bo.info
  have hmk := make_new (P := Try.prog) Try.underlying52 hi0 hz0 n hl (by omega)
  rw [hz1] at hmk
  simp only [Nat.mul_one] at hmk
  obtain ⟨cur, hcur, hcs⟩ := heap_made w (Value.cells (.bool false)) n 4
  have hb0 := (Below.refl w.heap.size w).alloc (Nat.le_refl _) (.cells (madeCells (Value.cells (.bool false)) n) 4)
  have hp0 : Part Bo.cells 1 4 _ w.heap.size 0 n [] := Part.start cur hcur (by omega)
  clear hcur hcs
  go_enter Try.func44, Try.ntmps44
  go_wp2
  simp only [Value.cells] at hb0 hp0
  generalize w.alloc _ = w0 at hb0 hp0 ⊢
  go_loopw [4] (fun i wr => ∃ k : Nat, k ≤ n ∧ i = .int .i64 k ∧ Below w.heap.size w wr ∧ Part Bo.cells 1 4 wr w.heap.size 0 n (l.take k)) (fun i _ => n - (intOf i).toNat)
  case atStart => exact ⟨0, Nat.zero_le _, rfl, hb0, hp0⟩
  case round =>
    clear hb0 hp0
    obtain ⟨k, hk, rfl, hb, hp⟩ := hrel
    by_cases hlt : k < n
    · obtain ⟨b, off, t, rfl, ht, _, hbw, f0⟩ := Bo.get h hlt hb hlo
      have hfz := hp.frozen
      obtain ⟨o0, g0⟩ := hp.cell1 hlt
      go_wp2_with fail
      go_roundw
      case rel =>
        refine ⟨k + 1, by omega, by go_num, setL_below hb (Bo.cells t) w.heap.size k (Nat.le_refl _), ?_⟩
        have hlen : (l.take k).length = k := by rw [List.length_take, ← H.out]; omega
        rw [List.take_add_one, ht.out]
        exact hp.set (by omega) t (Bo.cells t) rfl rfl Bo.cells_len (by rw [hlen]; omega)
      case measure => simp [intOf]; omega
    · go_wp2
      go_ret
      have hkn : k = n := by omega
      subst hkn
      rw [List.take_of_length_le (by rw [← H.out]; omega)] at hp
      exact ⟨_, rfl, hp.ow H.out.symm (Nat.le_refl _) hp.lt (Nat.le_refl _) (by unfold maxLen; omega), hb⟩
theorem Bo.eqS_any (v1 v2 : Value) (l1 l2 : List Bool) (w : World) {lo1 hi1 lo2 hi2 : Nat} (h1 : Rd Bo.cells 1 w lo1 hi1 v1 l1) (h2 : Rd Bo.cells 1 w lo2 hi2 v2 l2) (hh1 : hi1 ≤ w.heap.size) (hh2 : hi2 ≤ w.heap.size) :
    Calls Try.prog 46 #[v1, v2] w fun e w' => e = .returned (.bool (Bo.eqL l1 l2)) ∧ Below w.heap.size w w' := by
  obtain ⟨A, n, c, rfl, H1, hc1, hm1⟩ := h1.form
  obtain ⟨B, m, d, rfl, H2, hc2, hm2⟩ := h2.form
  by_cases hne : n = m
  · subst hne
    go_enter Try.func46, Try.ntmps46
    go_wp2_with fail
    go_loopw [5] (fun i wr => ∃ k : Nat, k ≤ n ∧ i = .int .i64 k ∧ Below w.heap.size w wr ∧ l1.take k = l2.take k) (fun i _ => n - (intOf i).toNat)
    case atStart => exact ⟨0, Nat.zero_le _, rfl, Below.refl _ _, rfl⟩
    case round =>
      obtain ⟨k, hk, rfl, hb, he⟩ := hrel
      have HE := Lib.hid he
      clear he
      by_cases hlt : k < n
      · obtain ⟨b, off, x, rfl, hx, _, _, f0⟩ := Bo.get h1 hlt hb hh1
        obtain ⟨b', off', y, rfl, hy, _, _, g0⟩ := Bo.get h2 hlt hb hh2
        by_cases hq : x = y
        · subst hq
          go_wp2_with fail
          go_quiet (fail)
          go_wp2_with fail
          go_roundw
          case rel => exact ⟨k + 1, by omega, by go_num, below_drewN hb _, by rw [List.take_add_one, List.take_add_one, HE.out, hx.out, hy.out]⟩
          case measure => simp [intOf]; omega
        · have hne : l1 ≠ l2 := by
            rintro rfl
            exact hq (Option.some.inj (hx.out.symm.trans hy.out))
          have HF := Lib.hid (show Bo.eqL l1 l2 = false from by simp [Bo.eqL, hne])
          have hq1 : (x == y) = false := by simpa using hq
          have hq2 : (x != y) = true := by simpa using hq
          clear hne
          go_wp2_with fail
          go_quiet (fail)
          go_wp2_with fail
          go_ret
          exact ⟨ret_bool HF.out.symm, below_drewN hb _⟩
      · go_wp2_with fail
        go_ret
        refine ⟨ret_bool ?_, hb⟩
        have he := HE.out
        rw [List.take_of_length_le (by rw [← H1.out]; omega), List.take_of_length_le (by rw [← H2.out]; omega)] at he
        simp [Bo.eqL, he]
  · have HF := Lib.hid (show Bo.eqL l1 l2 = false from by
      have : l1 ≠ l2 := by rintro rfl; exact hne (H1.out.trans H2.out.symm)
      simp [Bo.eqL, this])
    go_enter Try.func46, Try.ntmps46
    go_wp2_with fail
    go_ret
    exact ⟨ret_bool HF.out.symm, Below.refl _ _⟩
theorem Bo.eqS_same (v1 v2 : Value) (l : List Bool) (w : World) {lo1 hi1 lo2 hi2 : Nat} (h1 : Rd Bo.cells 1 w lo1 hi1 v1 l) (h2 : Rd Bo.cells 1 w lo2 hi2 v2 l) (hh1 : hi1 ≤ w.heap.size) (hh2 : hi2 ≤ w.heap.size) :
    Calls Try.prog 46 #[v1, v2] w fun e w' => e = .returned (.bool true) ∧ Below w.heap.size w w' := by
  have h := Bo.eqS_any v1 v2 l l w h1 h2 hh1 hh2
  rwa [show Bo.eqL l l = true from by simp [Bo.eqL]] at h

theorem Bo.one (y : Bool) (u : Value) (h : u ∈ Bo.cells y) : u.oneCell' = true := by
  simp only [Bo.cells, List.mem_cons, List.not_mem_nil, or_false] at h
  subst h; rfl
theorem Bo.app_rd {w : World} {ops : Array Oper} {rest : List Oper} {o : Oper} {a : Act} {Q : Exit → Act → World → Prop} (hgd : o.guard = none) (s x : Operand)
    (ho : o.op = .call { callee := .builtin .append, args := #[s, x], argTypes := #[52, 52] }) (base : Nat)
    (v : Value) (n : Nat) (xs : List Value) (hs : a.eval s = v) (hown : w.ownsRow base 4 1 v n xs) {lo hi m c : Nat} {A : Option Addr} {l : List Bool} (hx : a.eval x = .slice A m c) (hr : Rd Bo.cells 1 w lo hi (.slice A m c) l)
    (hlen : n + m ≤ 4194304) (hbase : base ≤ w.heap.size)
    (h : ∀ v' w', w'.ownsRow base 4 1 v' (n + m) (xs ++ l.flatMap Bo.cells) → w.grownBy w' v.ownBlock → wpList Try.prog ops Q rest (a.put o.dst v') w') : wpList Try.prog ops Q (o :: rest) a w := by
  obtain ⟨i0, hi0, hz0, hz1, hz2⟩ := info_parts Bo.info
  exact wp_app_rd hgd s x _ ho base _ i0 _ 1 _ Try.underlying52 hi0 hz0 hz1 hz2 rfl (by omega) Bo.cells_len Bo.one v n xs hs hown hx hr (by unfold maxLen; omega) (by omega) hbase h
theorem Bo.app_one {w : World} {ops : Array Oper} {rest : List Oper} {o : Oper} {a : Act} {Q : Exit → Act → World → Prop} (hgd : o.guard = none) (s x : Operand)
    (ho : o.op = .call { callee := .builtin .append, args := #[s, x], argTypes := #[52, 52] }) (base : Nat)
    (v : Value) (n : Nat) (xs : List Value) (hs : a.eval s = v) (hown : w.ownsRow base 4 1 v n xs) {g c : Nat} (y : Bool) (hx : a.eval x = .slice (some ⟨g, 0, none⟩) 1 c) (hr : ∀ j u, (Bo.cells y)[j]? = some u → w.cell? ⟨g, j, none⟩ = some u)
    (hlen : n ≤ 4194304) (hbase : base ≤ w.heap.size)
    (h : ∀ v' w', w'.ownsRow base 4 1 v' (n + 1) (xs ++ Bo.cells y) → w.grownBy w' v.ownBlock → wpList Try.prog ops Q rest (a.put o.dst v') w') : wpList Try.prog ops Q (o :: rest) a w := by
  obtain ⟨i0, hi0, hz0, hz1, hz2⟩ := info_parts Bo.info
  exact wpList_append_own w hgd s x _ ho base _ i0 _ 1 _ Try.underlying52 hi0 hz0 hz1 hz2 rfl (by omega) v n xs hs hown ⟨g, 0, none⟩ 1 c (Bo.cells y) hx (by rw [Bo.cells_len]) (fun j u hu => by rw [Go.WideShapes.add_plain, Nat.zero_add]; exact hr j u hu) (Bo.one y) (by unfold maxLen; omega) (by omega) hbase
    fun v' w' h1 h2 _ => h v' w' h1 h2

def Bo.mark (k : Int) : Bool := k % 3 == 0
def Bo.markL (k : Int) (n : Nat) : List Bool := (List.range n).map fun (i : Nat) => Bo.mark (k + i)
theorem Bo.markL_len (k : Int) (n : Nat) : (Bo.markL k n).length = n := by simp [Bo.markL]
theorem Bo.markL_succ (k : Int) (n : Nat) : Bo.markL k (n + 1) = Bo.markL k n ++ [Bo.mark (k + n)] := by simp [Bo.markL, List.range_succ]

theorem Bo.markS_any (v : Value) (l : List Bool) (w : World) {lo hi : Nat} (h : Ow Bo.cells 1 4 w lo hi v l) (k0 : Int) (h0 : 0 ≤ k0) (h1 : k0 ≤ 1099511627776) (hl : l.length ≤ 1048576) :
    Calls Try.prog 47 #[v, .int .i64 k0] w fun e w' => e = .returned (.int .i64 (k0 + l.length)) ∧ Ow Bo.cells 1 4 w' lo hi v (Bo.markL k0 l.length) ∧ Turned w w' v l.length := by
  obtain ⟨A, n, c, rfl, H, hc, hm⟩ := h.form
  rw [← H.out] at hl ⊢
  go_enter Try.func47, Try.ntmps47
  go_wp2_with fail
  go_loopw [1, 5] (fun q i wr => ∃ k : Nat, k ≤ n ∧ i = .int .i64 k ∧ q = .int .i64 (k0 + k) ∧ (0 < n → ∃ g off, A = some ⟨g, off, none⟩ ∧ lo ≤ g ∧ g < hi ∧ Part Bo.cells 1 4 wr g off n (Bo.markL k0 k) ∧ w.grownBy wr (some g)) ∧ (n = 0 → wr = w)) (fun _ i _ => n - (intOf i).toNat)
  case atStart =>
    refine ⟨0, Nat.zero_le _, rfl, by simp, fun hn => ?_, fun _ => rfl⟩
    obtain ⟨g, off, hA, hg1, hg2, hp⟩ := h.part Bo.cells_len (by omega) hn
    exact ⟨g, off, hA, hg1, hg2, by simpa [Bo.markL] using hp, World.grownBy.refl w _⟩
  case round =>
    obtain ⟨k, hk, rfl, rfl, hp, hn0⟩ := hrel
    by_cases hlt : k < n
    · obtain ⟨g, off, rfl, hg1, hg2, hp, hg⟩ := hp (by omega)
      have hfz := hp.frozen
      obtain ⟨o0, g0⟩ := hp.cell1o hlt
      clear hn0
      go_wp2_with fail
      go_roundw
      case rel =>
        refine ⟨k + 1, by omega, by go_num, by go_num, fun _ => ⟨g, off, rfl, hg1, hg2, ?_, ?_⟩, fun h => by omega⟩
        · rw [Bo.markL_succ]
          exact hp.set (by rw [Bo.markL_len]; exact hlt) _ (Bo.cells (Bo.mark (k0 + k))) rfl rfl Bo.cells_len (by rw [Bo.markL_len]; omega)
        · exact grown_trans hg (setL_grown (Bo.cells (Bo.mark (k0 + k))) wr g (off + k))
      case measure => simp [intOf]; omega
    · have hkn : k = n := by omega
      subst hkn
      go_wp2_with fail
      go_ret
      rcases Nat.eq_zero_or_pos k with hz | hz
      · subst hz
        have hl0 : l = [] := List.eq_nil_of_length_eq_zero H.out.symm
        subst hl0
        rw [hn0 rfl]
        exact ⟨rfl, h, Turned.refl _ _ _⟩
      · obtain ⟨g, off, rfl, hg1, hg2, hp, hg⟩ := hp hz
        exact ⟨rfl, hp.ow (Bo.markL_len _ _) hg1 hg2 hc (by unfold maxLen; omega), ⟨some g, hg, fun g' e => ⟨hz, by simpa [Value.ownBlock] using e⟩⟩⟩

end Go.Proofs.Ytljliknibnookaa
