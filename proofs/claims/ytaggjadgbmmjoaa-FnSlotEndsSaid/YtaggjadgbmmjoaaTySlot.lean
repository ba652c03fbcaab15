/- The type 'Slot' of the law text and of the program: its data, its cells, and what the law text's own helpers do with lists of it. No condition. -/
import Derived.Test.YtaggjadgbmmjoaaBase
namespace Go.Proofs.Ytaggjadgbmmjoaa
open Go.RowKit Go.ChangeShapes Go.WideShapes Go.Deep

structure Sl where
  state : Int
  irq : Int
  prio : Int
  deriving DecidableEq, Inhabited

def Sl.cells (t : Sl) : List Value := [.int .i64 t.state, .int .i64 t.irq, .int .i64 t.prio]
def Sl.val (t : Sl) : Value := .agg #[.int .i64 t.state, .int .i64 t.irq, .int .i64 t.prio]
def Sl.zero : Sl := ⟨0, 0, 0⟩
theorem Sl.cells_len (t : Sl) : t.cells.length = 3 := rfl
theorem Sl.info : (Try.prog.info? 33).map (fun i => (i.zero, i.size, i.bytes)) = some (some (.agg #[.int .i64 0, .int .i64 0, .int .i64 0]), 3, 24) := by kernel_rfl
theorem Sl.get {w : World} {lo hi : Nat} {A : Option Addr} {n c k : Nat} {l : List Sl} (h : Rd Sl.cells 3 w lo hi (.slice A n c) l) (hk : k < n) {B : Nat} {wr : World} (hb : Below B w wr) (hB : hi ≤ B) :
    ∃ b off t, A = some ⟨b, off, none⟩ ∧ Hid (l[k]? = some t) ∧ lo ≤ b ∧ b < hi ∧ wr.cell? ⟨b, off + k * 3, none⟩ = some (.int .i64 t.state) ∧ wr.cell? ⟨b, off + k * 3 + 1, none⟩ = some (.int .i64 t.irq) ∧ wr.cell? ⟨b, off + k * 3 + 2, none⟩ = some (.int .i64 t.prio) := by
  obtain ⟨b, off, t, hA, hx, h1, h2, h3⟩ := h.get hk hb hB
  exact ⟨b, off, t, hA, hx, h1, h2, h3 0 _ rfl, h3 1 _ rfl, h3 2 _ rfl⟩
def Sl.eqB (x y : Sl) : Bool := x.state == y.state && (x.irq == y.irq && (x.prio == y.prio))
theorem Sl.eqB_iff (x y : Sl) : x.eqB y = true ↔ x = y := by
  cases x; cases y; simp [Sl.eqB]
def Sl.eqL (a b : List Sl) : Bool := decide (a = b)

theorem Sl.index_any (g : FuncId) (lb : Array Value) (p : Sl → Bool) (v : Value) (l : List Sl) (w : World) {lo hi : Nat} (h : Rd Sl.cells 3 w lo hi v l) (hh : hi ≤ w.heap.size)
    (eg : ∀ args w, (callFunc g args).run Try.prog w = .ok (.enter g args) w)
    (hp : ∀ (t : Sl) (W : World), t ∈ l → Below w.heap.size w W → Calls Try.prog g (#[t.val] ++ lb) W fun e w' => e = .returned (.bool (p t)) ∧ Below W.heap.size W w') :
    Calls Try.prog 53 #[v, .func (.func g) #[] lb] w fun e w' => e = .returned (.int .i64 (findIx p l)) ∧ Below w.heap.size w w' := by
  obtain ⟨A, n, c, rfl, H, hc, hm⟩ := h.form
  unfold Sl.val at hp
  have HP := Lib.hid hp
  clear hp
  go_enter Try.func53, Try.ntmps53
  go_wp2_with fail
  go_loopw [8] (fun i wr => ∃ k : Nat, k ≤ n ∧ i = .int .i64 k ∧ Below w.heap.size w wr ∧ (l.take k).any p = false) (fun i _ => n - (intOf i).toNat)
  case atStart => exact ⟨0, Nat.zero_le _, rfl, Below.refl _ _, by simp⟩
  case round =>
    obtain ⟨k, hk, rfl, hb, he⟩ := hrel
    have HE := Lib.hid he
    clear he
    by_cases hlt : k < n
    · obtain ⟨b, off, x, rfl, hx, _, _, f0, f1, f2⟩ := Sl.get h hlt hb hh
      have c1 := HP.out x wr (List.mem_of_getElem? hx.out) hb
      cases hq : p x
      · rw [hq] at c1
        have HF := Lib.hid hq
        clear hq
        go_wp2_with fail
        refine c1.mono ?_; rintro e w1 ⟨rfl, hb1⟩
        go_wp2_with fail
        go_roundw
        case rel => exact ⟨k + 1, by omega, by go_num, hb.trans (hb1.mono hb.size), by rw [List.take_add_one, List.any_append, HE.out, hx.out]; simp [HF.out]⟩
        case measure => simp [intOf]; omega
      · rw [hq] at c1
        have HF := Lib.hid (findIx_hit HE.out hx.out hq)
        clear hq
        go_wp2_with fail
        refine c1.mono ?_; rintro e w1 ⟨rfl, hb1⟩
        go_wp2_with fail
        go_ret
        exact ⟨ret_int HF.out.symm, hb.trans (hb1.mono hb.size)⟩
    · go_wp2_with fail
      go_ret
      have he := HE.out
      rw [List.take_of_length_le (by rw [← H.out]; omega)] at he
      exact ⟨ret_int (by simp [findIx, he]), hb⟩


theorem Sl.one (y : Sl) (u : Value) (h : u ∈ Sl.cells y) : u.oneCell' = true := by
  simp only [Sl.cells, List.mem_cons, List.not_mem_nil, or_false] at h
  rcases h with rfl | rfl | rfl <;> rfl
theorem Sl.app_rd {w : World} {ops : Array Oper} {rest : List Oper} {o : Oper} {a : Act} {Q : Exit → Act → World → Prop} (hgd : o.guard = none) (s x : Operand)
    (ho : o.op = .call { callee := .builtin .append, args := #[s, x], argTypes := #[24, 24] }) (base : Nat)
    (v : Value) (n : Nat) (xs : List Value) (hs : a.eval s = v) (hown : w.ownsRow base 33 3 v n xs) {lo hi m c : Nat} {A : Option Addr} {l : List Sl} (hx : a.eval x = .slice A m c) (hr : Rd Sl.cells 3 w lo hi (.slice A m c) l)
    (hlen : n + m ≤ 4194304) (hbase : base ≤ w.heap.size)
    (h : ∀ v' w', w'.ownsRow base 33 3 v' (n + m) (xs ++ l.flatMap Sl.cells) → w.grownBy w' v.ownBlock → wpList Try.prog ops Q rest (a.put o.dst v') w') : wpList Try.prog ops Q (o :: rest) a w := by
  obtain ⟨i0, hi0, hz0, hz1, hz2⟩ := info_parts Sl.info
  exact wp_app_rd hgd s x _ ho base _ i0 _ 3 _ Try.underlying24 hi0 hz0 hz1 hz2 rfl (by omega) Sl.cells_len Sl.one v n xs hs hown hx hr (by unfold maxLen; omega) (by omega) hbase h
theorem Sl.app_one {w : World} {ops : Array Oper} {rest : List Oper} {o : Oper} {a : Act} {Q : Exit → Act → World → Prop} (hgd : o.guard = none) (s x : Operand)
    (ho : o.op = .call { callee := .builtin .append, args := #[s, x], argTypes := #[24, 24] }) (base : Nat)
    (v : Value) (n : Nat) (xs : List Value) (hs : a.eval s = v) (hown : w.ownsRow base 33 3 v n xs) {g c : Nat} (y : Sl) (hx : a.eval x = .slice (some ⟨g, 0, none⟩) 1 c) (hr : ∀ j u, (Sl.cells y)[j]? = some u → w.cell? ⟨g, j, none⟩ = some u)
    (hlen : n ≤ 4194304) (hbase : base ≤ w.heap.size)
    (h : ∀ v' w', w'.ownsRow base 33 3 v' (n + 1) (xs ++ Sl.cells y) → w.grownBy w' v.ownBlock → wpList Try.prog ops Q rest (a.put o.dst v') w') : wpList Try.prog ops Q (o :: rest) a w := by
  obtain ⟨i0, hi0, hz0, hz1, hz2⟩ := info_parts Sl.info
  exact wpList_append_own w hgd s x _ ho base _ i0 _ 3 _ Try.underlying24 hi0 hz0 hz1 hz2 rfl (by omega) v n xs hs hown ⟨g, 0, none⟩ 1 c (Sl.cells y) hx (by rw [Sl.cells_len]) (fun j u hu => by rw [Go.WideShapes.add_plain, Nat.zero_add]; exact hr j u hu) (Sl.one y) (by unfold maxLen; omega) (by omega) hbase
    fun v' w' h1 h2 _ => h v' w' h1 h2

/-- what marking writes, from k on -/
def Sl.mark (k : Int) : Sl := ⟨k, k + 1, k + 1 + 1⟩
def Sl.markL (k : Int) (n : Nat) : List Sl := (List.range n).map fun (i : Nat) => Sl.mark (k + 3 * i)
theorem Sl.markL_len (k : Int) (n : Nat) : (Sl.markL k n).length = n := by simp [Sl.markL]
theorem Sl.markL_succ (k : Int) (n : Nat) : Sl.markL k (n + 1) = Sl.markL k n ++ [Sl.mark (k + 3 * n)] := by simp [Sl.markL, List.range_succ]


end Go.Proofs.Ytaggjadgbmmjoaa
