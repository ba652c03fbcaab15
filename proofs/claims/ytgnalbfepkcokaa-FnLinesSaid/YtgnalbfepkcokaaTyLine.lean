/- The type 'Line' of the law text and of the program: its data, its cells, and what the law text's own helpers do with lists of it. No condition. -/
import Derived.Test.YtgnalbfepkcokaaBase
namespace Go.Proofs.Ytgnalbfepkcokaa
open Go.RowKit Go.ChangeShapes Go.WideShapes Go.Deep

structure Ln where
  kind : Int
  irq : Int
  high : Bool
  raised : Bool
  deriving DecidableEq, Inhabited

def Ln.cells (t : Ln) : List Value := [.int .i64 t.kind, .int .i64 t.irq, .bool t.high, .bool t.raised]
def Ln.val (t : Ln) : Value := .agg #[.int .i64 t.kind, .int .i64 t.irq, .bool t.high, .bool t.raised]
def Ln.zero : Ln := ⟨0, 0, false, false⟩
theorem Ln.cells_len (t : Ln) : t.cells.length = 4 := rfl
theorem Ln.info : (Try.prog.info? 25).map (fun i => (i.zero, i.size, i.bytes)) = some (some (.agg #[.int .i64 0, .int .i64 0, .bool false, .bool false]), 4, 24) := by kernel_rfl
theorem Ln.get {w : World} {lo hi : Nat} {A : Option Addr} {n c k : Nat} {l : List Ln} (h : Rd Ln.cells 4 w lo hi (.slice A n c) l) (hk : k < n) {B : Nat} {wr : World} (hb : Below B w wr) (hB : hi ≤ B) :
    ∃ b off t, A = some ⟨b, off, none⟩ ∧ Hid (l[k]? = some t) ∧ lo ≤ b ∧ b < hi ∧ wr.cell? ⟨b, off + k * 4, none⟩ = some (.int .i64 t.kind) ∧ wr.cell? ⟨b, off + k * 4 + 1, none⟩ = some (.int .i64 t.irq) ∧ wr.cell? ⟨b, off + k * 4 + 2, none⟩ = some (.bool t.high) ∧ wr.cell? ⟨b, off + k * 4 + 3, none⟩ = some (.bool t.raised) := by
  obtain ⟨b, off, t, hA, hx, h1, h2, h3⟩ := h.get hk hb hB
  exact ⟨b, off, t, hA, hx, h1, h2, h3 0 _ rfl, h3 1 _ rfl, h3 2 _ rfl, h3 3 _ rfl⟩
def Ln.eqB (x y : Ln) : Bool := x.kind == y.kind && (x.irq == y.irq && (x.high == y.high && (x.raised == y.raised)))
theorem Ln.eqB_iff (x y : Ln) : x.eqB y = true ↔ x = y := by
  cases x; cases y; simp [Ln.eqB]
def Ln.eqL (a b : List Ln) : Bool := decide (a = b)

theorem Ln.index_any (g : FuncId) (lb : Array Value) (p : Ln → Bool) (v : Value) (l : List Ln) (w : World) {lo hi : Nat} (h : Rd Ln.cells 4 w lo hi v l) (hh : hi ≤ w.heap.size)
    (eg : ∀ args w, (callFunc g args).run Try.prog w = .ok (.enter g args) w)
    (hp : ∀ (t : Ln) (W : World), t ∈ l → Below w.heap.size w W → Calls Try.prog g (#[t.val] ++ lb) W fun e w' => e = .returned (.bool (p t)) ∧ Below W.heap.size W w') :
    Calls Try.prog 124 #[v, .func (.func g) #[] lb] w fun e w' => e = .returned (.int .i64 (findIx p l)) ∧ Below w.heap.size w w' := by
  obtain ⟨A, n, c, rfl, H, hc, hm⟩ := h.form
  unfold Ln.val at hp
  have HP := Lib.hid hp
  clear hp
  go_enter Try.func124, Try.ntmps124
  go_wp2_with fail
  go_loopw [8] (fun i wr => ∃ k : Nat, k ≤ n ∧ i = .int .i64 k ∧ Below w.heap.size w wr ∧ (l.take k).any p = false) (fun i _ => n - (intOf i).toNat)
  case atStart => exact ⟨0, Nat.zero_le _, rfl, Below.refl _ _, by simp⟩
  case round =>
    obtain ⟨k, hk, rfl, hb, he⟩ := hrel
    have HE := Lib.hid he
    clear he
    by_cases hlt : k < n
    · obtain ⟨b, off, x, rfl, hx, _, _, f0, f1, f2, f3⟩ := Ln.get h hlt hb hh
      have c1 := HP.out x wr (List.mem_of_getElem? hx.out) hb
      cases hq : p x
      · rw [hq] at c1
        have HF := Lib.hid hq
        clear hq
        go_wp2_with fail
        refine c1.mono ?_; rintro e w1 ⟨rfl, hb1⟩
        go_wp2_with fail
        go_roundw
        case rel => exact ⟨k + 1, by omega, by go_num, hb.trans (hb1.mono hb.size), by rw [List.take_add_one, List.any_append, HE.out, hx.out]; simp [HF.out]⟩
        case measure => simp [intOf]; omega
      · rw [hq] at c1
        have HF := Lib.hid (findIx_hit HE.out hx.out hq)
        clear hq
        go_wp2_with fail
        refine c1.mono ?_; rintro e w1 ⟨rfl, hb1⟩
        go_wp2_with fail
        go_ret
        exact ⟨ret_int HF.out.symm, hb.trans (hb1.mono hb.size)⟩
    · go_wp2_with fail
      go_ret
      have he := HE.out
      rw [List.take_of_length_le (by rw [← H.out]; omega)] at he
      exact ⟨ret_int (by simp [findIx, he]), hb⟩
theorem Ln.contains_any (g : FuncId) (lb : Array Value) (p : Ln → Bool) (v : Value) (l : List Ln) (w : World) {lo hi : Nat} (h : Rd Ln.cells 4 w lo hi v l) (hh : hi ≤ w.heap.size)
    (eg : ∀ args w, (callFunc g args).run Try.prog w = .ok (.enter g args) w)
    (hp : ∀ (t : Ln) (W : World), t ∈ l → Below w.heap.size w W → Calls Try.prog g (#[t.val] ++ lb) W fun e w' => e = .returned (.bool (p t)) ∧ Below W.heap.size W w') :
    Calls Try.prog 89 #[v, .func (.func g) #[] lb] w fun e w' => e = .returned (.bool (l.any p)) ∧ Below w.heap.size w w' := by
  have c1 := Ln.index_any g lb p v l w h hh eg hp
  clear hp
  have hs := findIx_nonneg p l
  generalize findIx p l = i at c1 hs
  cases hq : l.any p
  · rw [hq] at hs
    have hs : ¬ 0 ≤ i := by simpa using hs
    go_enter Try.func89, Try.ntmps89
    go_wp2_with fail
    refine c1.mono ?_; rintro e w1 ⟨rfl, hb1⟩
    go_wp2_with fail
    go_ret
    exact ⟨ret_bool (by simp), hb1⟩
  · rw [hq] at hs
    have hs : 0 ≤ i := by simpa using hs
    go_enter Try.func89, Try.ntmps89
    go_wp2_with fail
    refine c1.mono ?_; rintro e w1 ⟨rfl, hb1⟩
    go_wp2_with fail
    go_ret
    exact ⟨ret_bool (by simp), hb1⟩


theorem Ln.one (y : Ln) (u : Value) (h : u ∈ Ln.cells y) : u.oneCell' = true := by
  simp only [Ln.cells, List.mem_cons, List.not_mem_nil, or_false] at h
  rcases h with rfl | rfl | rfl | rfl <;> rfl
theorem Ln.app_rd {w : World} {ops : Array Oper} {rest : List Oper} {o : Oper} {a : Act} {Q : Exit → Act → World → Prop} (hgd : o.guard = none) (s x : Operand)
    (ho : o.op = .call { callee := .builtin .append, args := #[s, x], argTypes := #[33, 33] }) (base : Nat)
    (v : Value) (n : Nat) (xs : List Value) (hs : a.eval s = v) (hown : w.ownsRow base 25 4 v n xs) {lo hi m c : Nat} {A : Option Addr} {l : List Ln} (hx : a.eval x = .slice A m c) (hr : Rd Ln.cells 4 w lo hi (.slice A m c) l)
    (hlen : n + m ≤ 4194304) (hbase : base ≤ w.heap.size)
    (h : ∀ v' w', w'.ownsRow base 25 4 v' (n + m) (xs ++ l.flatMap Ln.cells) → w.grownBy w' v.ownBlock → wpList Try.prog ops Q rest (a.put o.dst v') w') : wpList Try.prog ops Q (o :: rest) a w := by
  obtain ⟨i0, hi0, hz0, hz1, hz2⟩ := info_parts Ln.info
  exact wp_app_rd hgd s x _ ho base _ i0 _ 4 _ Try.underlying33 hi0 hz0 hz1 hz2 rfl (by omega) Ln.cells_len Ln.one v n xs hs hown hx hr (by unfold maxLen; omega) (by omega) hbase h
theorem Ln.app_one {w : World} {ops : Array Oper} {rest : List Oper} {o : Oper} {a : Act} {Q : Exit → Act → World → Prop} (hgd : o.guard = none) (s x : Operand)
    (ho : o.op = .call { callee := .builtin .append, args := #[s, x], argTypes := #[33, 33] }) (base : Nat)
    (v : Value) (n : Nat) (xs : List Value) (hs : a.eval s = v) (hown : w.ownsRow base 25 4 v n xs) {g c : Nat} (y : Ln) (hx : a.eval x = .slice (some ⟨g, 0, none⟩) 1 c) (hr : ∀ j u, (Ln.cells y)[j]? = some u → w.cell? ⟨g, j, none⟩ = some u)
    (hlen : n ≤ 4194304) (hbase : base ≤ w.heap.size)
    (h : ∀ v' w', w'.ownsRow base 25 4 v' (n + 1) (xs ++ Ln.cells y) → w.grownBy w' v.ownBlock → wpList Try.prog ops Q rest (a.put o.dst v') w') : wpList Try.prog ops Q (o :: rest) a w := by
  obtain ⟨i0, hi0, hz0, hz1, hz2⟩ := info_parts Ln.info
  exact wpList_append_own w hgd s x _ ho base _ i0 _ 4 _ Try.underlying33 hi0 hz0 hz1 hz2 rfl (by omega) v n xs hs hown ⟨g, 0, none⟩ 1 c (Ln.cells y) hx (by rw [Ln.cells_len]) (fun j u hu => by rw [Go.WideShapes.add_plain, Nat.zero_add]; exact hr j u hu) (Ln.one y) (by unfold maxLen; omega) (by omega) hbase
    fun v' w' h1 h2 _ => h v' w' h1 h2

/-- what marking writes, from k on -/
def Ln.mark (k : Int) : Ln := ⟨k, k + 1, (k + 1 + 1) % 3 == 0, (k + 1 + 1 + 1) % 3 == 0⟩
def Ln.markL (k : Int) (n : Nat) : List Ln := (List.range n).map fun (i : Nat) => Ln.mark (k + 4 * i)
theorem Ln.markL_len (k : Int) (n : Nat) : (Ln.markL k n).length = n := by simp [Ln.markL]
theorem Ln.markL_succ (k : Int) (n : Nat) : Ln.markL k (n + 1) = Ln.markL k n ++ [Ln.mark (k + 4 * n)] := by simp [Ln.markL, List.range_succ]


end Go.Proofs.Ytgnalbfepkcokaa
