/- Lists of 'bool': their cells, and what the law text's own helpers do with them. No condition. -/
import Derived.Test.YtgnalbfepkcokaaBase
namespace Go.Proofs.Ytgnalbfepkcokaa
open Go.RowKit Go.ChangeShapes Go.WideShapes Go.Deep

def Bo.cells (x : Bool) : List Value := [.bool x]
theorem Bo.cells_len (x : Bool) : (Bo.cells x).length = 1 := rfl
theorem Bo.info : (Try.prog.info? 4).map (fun i => (i.zero, i.size, i.bytes)) = some (some (.bool false), 1, 1) := by kernel_rfl
theorem Bo.get {w : World} {lo hi : Nat} {A : Option Addr} {n c k : Nat} {l : List Bool} (h : Rd Bo.cells 1 w lo hi (.slice A n c) l) (hk : k < n) {B : Nat} {wr : World} (hb : Below B w wr) (hB : hi ≤ B) :
    ∃ b off t, A = some ⟨b, off, none⟩ ∧ Hid (l[k]? = some t) ∧ lo ≤ b ∧ b < hi ∧ wr.cell? ⟨b, off + k, none⟩ = some (.bool t) := by
  obtain ⟨b, off, t, hA, hx, h1, h2, h3⟩ := h.get hk hb hB
  exact ⟨b, off, t, hA, hx, h1, h2, by simpa using h3 0 _ rfl⟩
def Bo.eqL (a b : List Bool) : Bool := decide (a = b)
set_option maxRecDepth 8000 in
theorem Bo.openS {H : Type} {enc : TypeId × Value → H} {w : World} {base : Nat} {spare : Nat → Bool} {held : Bool} {r : Reach} {b0 : Nat} {v : Value} {d : DataW H} {p : List MemPlace}
    (hv : Value.okWide Try.prog w r b0 34 v) (h : DataW.Trod enc Try.prog w base spare held 34 v d p) : ∃ l : List Bool, Rd Bo.cells 1 w 0 w.heap.size v l :=
  open_rd1 (c := fun x => .bool x) Try.underlying34 (by kernel_rfl) (fun cs n y hy => by
    obtain ⟨a, e, _⟩ := DataW.trod_bool Try.underlying4 hy
    exact ⟨a, e⟩) hv h

theorem Bo.one (y : Bool) (u : Value) (h : u ∈ Bo.cells y) : u.oneCell' = true := by
  simp only [Bo.cells, List.mem_cons, List.not_mem_nil, or_false] at h
  subst h; rfl
theorem Bo.app_rd {w : World} {ops : Array Oper} {rest : List Oper} {o : Oper} {a : Act} {Q : Exit → Act → World → Prop} (hgd : o.guard = none) (s x : Operand)
    (ho : o.op = .call { callee := .builtin .append, args := #[s, x], argTypes := #[34, 34] }) (base : Nat)
    (v : Value) (n : Nat) (xs : List Value) (hs : a.eval s = v) (hown : w.ownsRow base 4 1 v n xs) {lo hi m c : Nat} {A : Option Addr} {l : List Bool} (hx : a.eval x = .slice A m c) (hr : Rd Bo.cells 1 w lo hi (.slice A m c) l)
    (hlen : n + m ≤ 4194304) (hbase : base ≤ w.heap.size)
    (h : ∀ v' w', w'.ownsRow base 4 1 v' (n + m) (xs ++ l.flatMap Bo.cells) → w.grownBy w' v.ownBlock → wpList Try.prog ops Q rest (a.put o.dst v') w') : wpList Try.prog ops Q (o :: rest) a w := by
  obtain ⟨i0, hi0, hz0, hz1, hz2⟩ := info_parts Bo.info
  exact wp_app_rd hgd s x _ ho base _ i0 _ 1 _ Try.underlying34 hi0 hz0 hz1 hz2 rfl (by omega) Bo.cells_len Bo.one v n xs hs hown hx hr (by unfold maxLen; omega) (by omega) hbase h
theorem Bo.app_one {w : World} {ops : Array Oper} {rest : List Oper} {o : Oper} {a : Act} {Q : Exit → Act → World → Prop} (hgd : o.guard = none) (s x : Operand)
    (ho : o.op = .call { callee := .builtin .append, args := #[s, x], argTypes := #[34, 34] }) (base : Nat)
    (v : Value) (n : Nat) (xs : List Value) (hs : a.eval s = v) (hown : w.ownsRow base 4 1 v n xs) {g c : Nat} (y : Bool) (hx : a.eval x = .slice (some ⟨g, 0, none⟩) 1 c) (hr : ∀ j u, (Bo.cells y)[j]? = some u → w.cell? ⟨g, j, none⟩ = some u)
    (hlen : n ≤ 4194304) (hbase : base ≤ w.heap.size)
    (h : ∀ v' w', w'.ownsRow base 4 1 v' (n + 1) (xs ++ Bo.cells y) → w.grownBy w' v.ownBlock → wpList Try.prog ops Q rest (a.put o.dst v') w') : wpList Try.prog ops Q (o :: rest) a w := by
  obtain ⟨i0, hi0, hz0, hz1, hz2⟩ := info_parts Bo.info
  exact wpList_append_own w hgd s x _ ho base _ i0 _ 1 _ Try.underlying34 hi0 hz0 hz1 hz2 rfl (by omega) v n xs hs hown ⟨g, 0, none⟩ 1 c (Bo.cells y) hx (by rw [Bo.cells_len]) (fun j u hu => by rw [Go.WideShapes.add_plain, Nat.zero_add]; exact hr j u hu) (Bo.one y) (by unfold maxLen; omega) (by omega) hbase
    fun v' w' h1 h2 _ => h v' w' h1 h2

def Bo.mark (k : Int) : Bool := k % 3 == 0
def Bo.markL (k : Int) (n : Nat) : List Bool := (List.range n).map fun (i : Nat) => Bo.mark (k + i)
theorem Bo.markL_len (k : Int) (n : Nat) : (Bo.markL k n).length = n := by simp [Bo.markL]
theorem Bo.markL_succ (k : Int) (n : Nat) : Bo.markL k (n + 1) = Bo.markL k n ++ [Bo.mark (k + n)] := by simp [Bo.markL, List.range_succ]


end Go.Proofs.Ytgnalbfepkcokaa
