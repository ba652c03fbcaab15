/- Lists of 'int': their cells, and what the law text's own helpers do with them. No condition. -/
import Derived.Test.YtgnalbfepkcokaaBase
namespace Go.Proofs.Ytgnalbfepkcokaa
open Go.RowKit Go.ChangeShapes Go.WideShapes Go.Deep

def Nm.cells (x : Int) : List Value := [.int .i64 x]
theorem Nm.cells_len (x : Int) : (Nm.cells x).length = 1 := rfl
theorem Nm.info : (Try.prog.info? 3).map (fun i => (i.zero, i.size, i.bytes)) = some (some (.int .i64 0), 1, 8) := by kernel_rfl
theorem Nm.get {w : World} {lo hi : Nat} {A : Option Addr} {n c k : Nat} {l : List Int} (h : Rd Nm.cells 1 w lo hi (.slice A n c) l) (hk : k < n) {B : Nat} {wr : World} (hb : Below B w wr) (hB : hi ≤ B) :
    ∃ b off t, A = some ⟨b, off, none⟩ ∧ Hid (l[k]? = some t) ∧ lo ≤ b ∧ b < hi ∧ wr.cell? ⟨b, off + k, none⟩ = some (.int .i64 t) := by
  obtain ⟨b, off, t, hA, hx, h1, h2, h3⟩ := h.get hk hb hB
  exact ⟨b, off, t, hA, hx, h1, h2, by simpa using h3 0 _ rfl⟩
def Nm.eqL (a b : List Int) : Bool := decide (a = b)
set_option maxRecDepth 8000 in
theorem Nm.openS {H : Type} {enc : TypeId × Value → H} {w : World} {base : Nat} {spare : Nat → Bool} {held : Bool} {r : Reach} {b0 : Nat} {v : Value} {d : DataW H} {p : List MemPlace}
    (hv : Value.okWide Try.prog w r b0 47 v) (h : DataW.Trod enc Try.prog w base spare held 47 v d p) : ∃ l : List Int, Rd Nm.cells 1 w 0 w.heap.size v l :=
  open_rd1 (c := fun x => .int .i64 x) Try.underlying47 (by kernel_rfl) (fun cs n y hy => by
    obtain ⟨a, e, _⟩ := DataW.trod_int Try.underlying3 hy
    exact ⟨a, e⟩) hv h

theorem Nm.one (y : Int) (u : Value) (h : u ∈ Nm.cells y) : u.oneCell' = true := by
  simp only [Nm.cells, List.mem_cons, List.not_mem_nil, or_false] at h
  subst h; rfl
theorem Nm.app_rd {w : World} {ops : Array Oper} {rest : List Oper} {o : Oper} {a : Act} {Q : Exit → Act → World → Prop} (hgd : o.guard = none) (s x : Operand)
    (ho : o.op = .call { callee := .builtin .append, args := #[s, x], argTypes := #[47, 47] }) (base : Nat)
    (v : Value) (n : Nat) (xs : List Value) (hs : a.eval s = v) (hown : w.ownsRow base 3 1 v n xs) {lo hi m c : Nat} {A : Option Addr} {l : List Int} (hx : a.eval x = .slice A m c) (hr : Rd Nm.cells 1 w lo hi (.slice A m c) l)
    (hlen : n + m ≤ 4194304) (hbase : base ≤ w.heap.size)
    (h : ∀ v' w', w'.ownsRow base 3 1 v' (n + m) (xs ++ l.flatMap Nm.cells) → w.grownBy w' v.ownBlock → wpList Try.prog ops Q rest (a.put o.dst v') w') : wpList Try.prog ops Q (o :: rest) a w := by
  obtain ⟨i0, hi0, hz0, hz1, hz2⟩ := info_parts Nm.info
  exact wp_app_rd hgd s x _ ho base _ i0 _ 1 _ Try.underlying47 hi0 hz0 hz1 hz2 rfl (by omega) Nm.cells_len Nm.one v n xs hs hown hx hr (by unfold maxLen; omega) (by omega) hbase h
theorem Nm.app_one {w : World} {ops : Array Oper} {rest : List Oper} {o : Oper} {a : Act} {Q : Exit → Act → World → Prop} (hgd : o.guard = none) (s x : Operand)
    (ho : o.op = .call { callee := .builtin .append, args := #[s, x], argTypes := #[47, 47] }) (base : Nat)
    (v : Value) (n : Nat) (xs : List Value) (hs : a.eval s = v) (hown : w.ownsRow base 3 1 v n xs) {g c : Nat} (y : Int) (hx : a.eval x = .slice (some ⟨g, 0, none⟩) 1 c) (hr : ∀ j u, (Nm.cells y)[j]? = some u → w.cell? ⟨g, j, none⟩ = some u)
    (hlen : n ≤ 4194304) (hbase : base ≤ w.heap.size)
    (h : ∀ v' w', w'.ownsRow base 3 1 v' (n + 1) (xs ++ Nm.cells y) → w.grownBy w' v.ownBlock → wpList Try.prog ops Q rest (a.put o.dst v') w') : wpList Try.prog ops Q (o :: rest) a w := by
  obtain ⟨i0, hi0, hz0, hz1, hz2⟩ := info_parts Nm.info
  exact wpList_append_own w hgd s x _ ho base _ i0 _ 1 _ Try.underlying47 hi0 hz0 hz1 hz2 rfl (by omega) v n xs hs hown ⟨g, 0, none⟩ 1 c (Nm.cells y) hx (by rw [Nm.cells_len]) (fun j u hu => by rw [Go.WideShapes.add_plain, Nat.zero_add]; exact hr j u hu) (Nm.one y) (by unfold maxLen; omega) (by omega) hbase
    fun v' w' h1 h2 _ => h v' w' h1 h2

def Nm.mark (k : Int) : Int := k
def Nm.markL (k : Int) (n : Nat) : List Int := (List.range n).map fun (i : Nat) => Nm.mark (k + i)
theorem Nm.markL_len (k : Int) (n : Nat) : (Nm.markL k n).length = n := by simp [Nm.markL]
theorem Nm.markL_succ (k : Int) (n : Nat) : Nm.markL k (n + 1) = Nm.markL k n ++ [Nm.mark (k + n)] := by simp [Nm.markL, List.range_succ]


end Go.Proofs.Ytgnalbfepkcokaa
