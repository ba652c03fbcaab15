/- The type 'Irq' of the law text and of the program: its data, its cells, and what the law text's own helpers do with lists of it. No condition. -/
import Derived.Test.YtgnalbfepkcokaaBase
namespace Go.Proofs.Ytgnalbfepkcokaa
open Go.RowKit Go.ChangeShapes Go.WideShapes Go.Deep

structure Iq where
  enabled : Bool
  pending : Bool
  active : Bool
  prio : Int
  target : Int
  deriving DecidableEq, Inhabited

def Iq.cells (t : Iq) : List Value := [.bool t.enabled, .bool t.pending, .bool t.active, .int .i64 t.prio, .int .i64 t.target]
def Iq.val (t : Iq) : Value := .agg #[.bool t.enabled, .bool t.pending, .bool t.active, .int .i64 t.prio, .int .i64 t.target]
def Iq.zero : Iq := ⟨false, false, false, 0, 0⟩
theorem Iq.cells_len (t : Iq) : t.cells.length = 5 := rfl
theorem Iq.info : (Try.prog.info? 62).map (fun i => (i.zero, i.size, i.bytes)) = some (some (.agg #[.bool false, .bool false, .bool false, .int .i64 0, .int .i64 0]), 5, 24) := by kernel_rfl
theorem Iq.get {w : World} {lo hi : Nat} {A : Option Addr} {n c k : Nat} {l : List Iq} (h : Rd Iq.cells 5 w lo hi (.slice A n c) l) (hk : k < n) {B : Nat} {wr : World} (hb : Below B w wr) (hB : hi ≤ B) :
    ∃ b off t, A = some ⟨b, off, none⟩ ∧ Hid (l[k]? = some t) ∧ lo ≤ b ∧ b < hi ∧ wr.cell? ⟨b, off + k * 5, none⟩ = some (.bool t.enabled) ∧ wr.cell? ⟨b, off + k * 5 + 1, none⟩ = some (.bool t.pending) ∧ wr.cell? ⟨b, off + k * 5 + 2, none⟩ = some (.bool t.active) ∧ wr.cell? ⟨b, off + k * 5 + 3, none⟩ = some (.int .i64 t.prio) ∧ wr.cell? ⟨b, off + k * 5 + 4, none⟩ = some (.int .i64 t.target) := by
  obtain ⟨b, off, t, hA, hx, h1, h2, h3⟩ := h.get hk hb hB
  exact ⟨b, off, t, hA, hx, h1, h2, h3 0 _ rfl, h3 1 _ rfl, h3 2 _ rfl, h3 3 _ rfl, h3 4 _ rfl⟩
def Iq.eqB (x y : Iq) : Bool := x.enabled == y.enabled && (x.pending == y.pending && (x.active == y.active && (x.prio == y.prio && (x.target == y.target))))
theorem Iq.eqB_iff (x y : Iq) : x.eqB y = true ↔ x = y := by
  cases x; cases y; simp [Iq.eqB]
def Iq.eqL (a b : List Iq) : Bool := decide (a = b)

theorem Iq.index_any (g : FuncId) (lb : Array Value) (p : Iq → Bool) (v : Value) (l : List Iq) (w : World) {lo hi : Nat} (h : Rd Iq.cells 5 w lo hi v l) (hh : hi ≤ w.heap.size)
    (eg : ∀ args w, (callFunc g args).run Try.prog w = .ok (.enter g args) w)
    (hp : ∀ (t : Iq) (W : World), t ∈ l → Below w.heap.size w W → Calls Try.prog g (#[t.val] ++ lb) W fun e w' => e = .returned (.bool (p t)) ∧ Below W.heap.size W w') :
    Calls Try.prog 128 #[v, .func (.func g) #[] lb] w fun e w' => e = .returned (.int .i64 (findIx p l)) ∧ Below w.heap.size w w' := by
  obtain ⟨A, n, c, rfl, H, hc, hm⟩ := h.form
  unfold Iq.val at hp
  have HP := Lib.hid hp
  clear hp
  go_enter Try.func128, Try.ntmps128
  go_wp2_with fail
  go_loopw [8] (fun i wr => ∃ k : Nat, k ≤ n ∧ i = .int .i64 k ∧ Below w.heap.size w wr ∧ (l.take k).any p = false) (fun i _ => n - (intOf i).toNat)
  case atStart => exact ⟨0, Nat.zero_le _, rfl, Below.refl _ _, by simp⟩
  case round =>
    obtain ⟨k, hk, rfl, hb, he⟩ := hrel
    have HE := Lib.hid he
    clear he
    by_cases hlt : k < n
    · obtain ⟨b, off, x, rfl, hx, _, _, f0, f1, f2, f3, f4⟩ := Iq.get h hlt hb hh
      have c1 := HP.out x wr (List.mem_of_getElem? hx.out) hb
      cases hq : p x
      · rw [hq] at c1
        have HF := Lib.hid hq
        clear hq
        go_wp2_with fail
        refine c1.mono ?_; rintro e w1 ⟨rfl, hb1⟩
        go_wp2_with fail
        go_roundw
        case rel => exact ⟨k + 1, by omega, by go_num, hb.trans (hb1.mono hb.size), by rw [List.take_add_one, List.any_append, HE.out, hx.out]; simp [HF.out]⟩
        case measure => simp [intOf]; omega
      · rw [hq] at c1
        have HF := Lib.hid (findIx_hit HE.out hx.out hq)
        clear hq
        go_wp2_with fail
        refine c1.mono ?_; rintro e w1 ⟨rfl, hb1⟩
        go_wp2_with fail
        go_ret
        exact ⟨ret_int HF.out.symm, hb.trans (hb1.mono hb.size)⟩
    · go_wp2_with fail
      go_ret
      have he := HE.out
      rw [List.take_of_length_le (by rw [← H.out]; omega)] at he
      exact ⟨ret_int (by simp [findIx, he]), hb⟩
theorem Iq.contains_any (g : FuncId) (lb : Array Value) (p : Iq → Bool) (v : Value) (l : List Iq) (w : World) {lo hi : Nat} (h : Rd Iq.cells 5 w lo hi v l) (hh : hi ≤ w.heap.size)
    (eg : ∀ args w, (callFunc g args).run Try.prog w = .ok (.enter g args) w)
    (hp : ∀ (t : Iq) (W : World), t ∈ l → Below w.heap.size w W → Calls Try.prog g (#[t.val] ++ lb) W fun e w' => e = .returned (.bool (p t)) ∧ Below W.heap.size W w') :
    Calls Try.prog 118 #[v, .func (.func g) #[] lb] w fun e w' => e = .returned (.bool (l.any p)) ∧ Below w.heap.size w w' := by
  have c1 := Iq.index_any g lb p v l w h hh eg hp
  clear hp
  have hs := findIx_nonneg p l
  generalize findIx p l = i at c1 hs
  cases hq : l.any p
  · rw [hq] at hs
    have hs : ¬ 0 ≤ i := by simpa using hs
    go_enter Try.func118, Try.ntmps118
    go_wp2_with fail
    refine c1.mono ?_; rintro e w1 ⟨rfl, hb1⟩
    go_wp2_with fail
    go_ret
    exact ⟨ret_bool (by simp), hb1⟩
  · rw [hq] at hs
    have hs : 0 ≤ i := by simpa using hs
    go_enter Try.func118, Try.ntmps118
    go_wp2_with fail
    refine c1.mono ?_; rintro e w1 ⟨rfl, hb1⟩
    go_wp2_with fail
    go_ret
    exact ⟨ret_bool (by simp), hb1⟩


theorem Iq.one (y : Iq) (u : Value) (h : u ∈ Iq.cells y) : u.oneCell' = true := by
  simp only [Iq.cells, List.mem_cons, List.not_mem_nil, or_false] at h
  rcases h with rfl | rfl | rfl | rfl | rfl <;> rfl
theorem Iq.app_rd {w : World} {ops : Array Oper} {rest : List Oper} {o : Oper} {a : Act} {Q : Exit → Act → World → Prop} (hgd : o.guard = none) (s x : Operand)
    (ho : o.op = .call { callee := .builtin .append, args := #[s, x], argTypes := #[54, 54] }) (base : Nat)
    (v : Value) (n : Nat) (xs : List Value) (hs : a.eval s = v) (hown : w.ownsRow base 62 5 v n xs) {lo hi m c : Nat} {A : Option Addr} {l : List Iq} (hx : a.eval x = .slice A m c) (hr : Rd Iq.cells 5 w lo hi (.slice A m c) l)
    (hlen : n + m ≤ 4194304) (hbase : base ≤ w.heap.size)
    (h : ∀ v' w', w'.ownsRow base 62 5 v' (n + m) (xs ++ l.flatMap Iq.cells) → w.grownBy w' v.ownBlock → wpList Try.prog ops Q rest (a.put o.dst v') w') : wpList Try.prog ops Q (o :: rest) a w := by
  obtain ⟨i0, hi0, hz0, hz1, hz2⟩ := info_parts Iq.info
  exact wp_app_rd hgd s x _ ho base _ i0 _ 5 _ Try.underlying54 hi0 hz0 hz1 hz2 rfl (by omega) Iq.cells_len Iq.one v n xs hs hown hx hr (by unfold maxLen; omega) (by omega) hbase h
theorem Iq.app_one {w : World} {ops : Array Oper} {rest : List Oper} {o : Oper} {a : Act} {Q : Exit → Act → World → Prop} (hgd : o.guard = none) (s x : Operand)
    (ho : o.op = .call { callee := .builtin .append, args := #[s, x], argTypes := #[54, 54] }) (base : Nat)
    (v : Value) (n : Nat) (xs : List Value) (hs : a.eval s = v) (hown : w.ownsRow base 62 5 v n xs) {g c : Nat} (y : Iq) (hx : a.eval x = .slice (some ⟨g, 0, none⟩) 1 c) (hr : ∀ j u, (Iq.cells y)[j]? = some u → w.cell? ⟨g, j, none⟩ = some u)
    (hlen : n ≤ 4194304) (hbase : base ≤ w.heap.size)
    (h : ∀ v' w', w'.ownsRow base 62 5 v' (n + 1) (xs ++ Iq.cells y) → w.grownBy w' v.ownBlock → wpList Try.prog ops Q rest (a.put o.dst v') w') : wpList Try.prog ops Q (o :: rest) a w := by
  obtain ⟨i0, hi0, hz0, hz1, hz2⟩ := info_parts Iq.info
  exact wpList_append_own w hgd s x _ ho base _ i0 _ 5 _ Try.underlying54 hi0 hz0 hz1 hz2 rfl (by omega) v n xs hs hown ⟨g, 0, none⟩ 1 c (Iq.cells y) hx (by rw [Iq.cells_len]) (fun j u hu => by rw [Go.WideShapes.add_plain, Nat.zero_add]; exact hr j u hu) (Iq.one y) (by unfold maxLen; omega) (by omega) hbase
    fun v' w' h1 h2 _ => h v' w' h1 h2

/-- what marking writes, from k on -/
def Iq.mark (k : Int) : Iq := ⟨k % 3 == 0, (k + 1) % 3 == 0, (k + 1 + 1) % 3 == 0, k + 1 + 1 + 1, k + 1 + 1 + 1 + 1⟩
def Iq.markL (k : Int) (n : Nat) : List Iq := (List.range n).map fun (i : Nat) => Iq.mark (k + 5 * i)
theorem Iq.markL_len (k : Int) (n : Nat) : (Iq.markL k n).length = n := by simp [Iq.markL]
theorem Iq.markL_succ (k : Int) (n : Nat) : Iq.markL k (n + 1) = Iq.markL k n ++ [Iq.mark (k + 5 * n)] := by simp [Iq.markL, List.range_succ]


end Go.Proofs.Ytgnalbfepkcokaa
