/- Lists of texts: their cells. No condition. -/
import Derived.Test.YtaggjadgbmmjoaaDoorBase
namespace Go.Proofs.YtaggjadgbmmjoaaDoor
open Go.RowKit Go.ChangeShapes Go.WideShapes Go.Deep

def St.cells (x : ByteArray) : List Value := [.string x]
theorem St.cells_len (x : ByteArray) : (St.cells x).length = 1 := rfl
theorem St.info : (Tryd.prog.info? 9).map (fun i => (i.zero, i.size, i.bytes)) = some (some (.string ⟨#[]⟩), 1, 16) := by kernel_rfl
theorem St.get {w : World} {lo hi : Nat} {A : Option Addr} {n c k : Nat} {l : List ByteArray} (h : Rd St.cells 1 w lo hi (.slice A n c) l) (hk : k < n) {B : Nat} {wr : World} (hb : Below B w wr) (hB : hi ≤ B) :
    ∃ b off t, A = some ⟨b, off, none⟩ ∧ Hid (l[k]? = some t) ∧ lo ≤ b ∧ b < hi ∧ wr.cell? ⟨b, off + k, none⟩ = some (.string t) := by
  obtain ⟨b, off, t, hA, hx, h1, h2, h3⟩ := h.get hk hb hB
  exact ⟨b, off, t, hA, hx, h1, h2, by simpa using h3 0 _ rfl⟩
theorem St.one (y : ByteArray) (u : Value) (h : u ∈ St.cells y) : u.oneCell' = true := by
  simp only [St.cells, List.mem_cons, List.not_mem_nil, or_false] at h
  subst h; rfl
theorem St.app_rd {w : World} {ops : Array Oper} {rest : List Oper} {o : Oper} {a : Act} {Q : Exit → Act → World → Prop} (hgd : o.guard = none) (s x : Operand)
    (ho : o.op = .call { callee := .builtin .append, args := #[s, x], argTypes := #[41, 41] }) (base : Nat)
    (v : Value) (n : Nat) (xs : List Value) (hs : a.eval s = v) (hown : w.ownsRow base 9 1 v n xs) {lo hi m c : Nat} {A : Option Addr} {l : List ByteArray} (hx : a.eval x = .slice A m c) (hr : Rd St.cells 1 w lo hi (.slice A m c) l)
    (hlen : n + m ≤ 4194304) (hbase : base ≤ w.heap.size)
    (h : ∀ v' w', w'.ownsRow base 9 1 v' (n + m) (xs ++ l.flatMap St.cells) → w.grownBy w' v.ownBlock → wpList Tryd.prog ops Q rest (a.put o.dst v') w') : wpList Tryd.prog ops Q (o :: rest) a w := by
  obtain ⟨i0, hi0, hz0, hz1, hz2⟩ := info_parts St.info
  exact wp_app_rd hgd s x _ ho base _ i0 _ 1 _ Tryd.underlying41 hi0 hz0 hz1 hz2 rfl (by omega) St.cells_len St.one v n xs hs hown hx hr (by unfold maxLen; omega) (by omega) hbase h
theorem St.app_one {w : World} {ops : Array Oper} {rest : List Oper} {o : Oper} {a : Act} {Q : Exit → Act → World → Prop} (hgd : o.guard = none) (s x : Operand)
    (ho : o.op = .call { callee := .builtin .append, args := #[s, x], argTypes := #[41, 41] }) (base : Nat)
    (v : Value) (n : Nat) (xs : List Value) (hs : a.eval s = v) (hown : w.ownsRow base 9 1 v n xs) {g c : Nat} (y : ByteArray) (hx : a.eval x = .slice (some ⟨g, 0, none⟩) 1 c) (hr : ∀ j u, (St.cells y)[j]? = some u → w.cell? ⟨g, j, none⟩ = some u)
    (hlen : n ≤ 4194304) (hbase : base ≤ w.heap.size)
    (h : ∀ v' w', w'.ownsRow base 9 1 v' (n + 1) (xs ++ St.cells y) → w.grownBy w' v.ownBlock → wpList Tryd.prog ops Q rest (a.put o.dst v') w') : wpList Tryd.prog ops Q (o :: rest) a w := by
  obtain ⟨i0, hi0, hz0, hz1, hz2⟩ := info_parts St.info
  exact wpList_append_own w hgd s x _ ho base _ i0 _ 1 _ Tryd.underlying41 hi0 hz0 hz1 hz2 rfl (by omega) v n xs hs hown ⟨g, 0, none⟩ 1 c (St.cells y) hx (by rw [St.cells_len]) (fun j u hu => by rw [Go.WideShapes.add_plain, Nat.zero_add]; exact hr j u hu) (St.one y) (by unfold maxLen; omega) (by omega) hbase
    fun v' w' h1 h2 _ => h v' w' h1 h2

end Go.Proofs.YtaggjadgbmmjoaaDoor
