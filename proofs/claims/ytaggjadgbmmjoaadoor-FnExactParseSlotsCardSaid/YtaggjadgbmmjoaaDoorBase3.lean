/- Reslices of rows that read as lists. No condition. -/
import Derived.Test.YtaggjadgbmmjoaaDoorBase2
namespace Go.Proofs.YtaggjadgbmmjoaaDoor
open Go.RowKit Go.ChangeShapes Go.WideShapes Go.Deep

section
variable {α : Type} {cells : α → List Value} {w : World} {lo hi n c : Nat} {A : Option Addr} {l : List α}
theorem Rd.take_ {sz : Nat} (h : Rd cells sz w lo hi (.slice A n c) l) {k : Nat} (hk : k ≤ n) : Rd cells sz w lo hi (.slice A k c) (l.take k) := by
  obtain ⟨A', c', hv, h1, h2, h3⟩ := h
  injection hv with e1 e2 e3
  subst e1; subst e2; subst e3
  have hl : (l.take k).length = k := by rw [List.length_take]; omega
  refine ⟨A, c, by rw [hl], by omega, h2, fun hn => ?_⟩
  obtain ⟨b, off, hA, hb1, hb2, hx⟩ := h3 (by omega)
  refine ⟨b, off, hA, hb1, hb2, fun i x hi => hx i x ?_⟩
  rw [List.getElem?_take] at hi
  split at hi
  · exact hi
  · cases hi
theorem Rd.drop1 (h : Rd cells 1 w lo hi (.slice A n c) l) {k : Nat} (hk : k ≤ n) : Rd cells 1 w lo hi (.slice (if c = k then A else Option.map (fun x => x.add k) A) (n - k) (c - k)) (l.drop k) := by
  obtain ⟨A', c', hv, h1, h2, h3⟩ := h
  injection hv with e1 e2 e3
  subst e1; subst e2; subst e3
  have hl : (l.drop k).length = l.length - k := by rw [List.length_drop]
  refine ⟨_, c - k, by rw [hl], by omega, by omega, fun hn => ?_⟩
  obtain ⟨b, off, hA, hb1, hb2, hx⟩ := h3 (by omega)
  refine ⟨b, off + k, by rw [if_neg (by omega), hA]; simp [Go.WideShapes.add_plain], hb1, hb2, fun i x hi j u hu => ?_⟩
  rw [List.getElem?_drop] at hi
  have := hx (k + i) x hi j u hu
  rwa [show off + (k + i) * 1 + j = off + k + i * 1 + j by omega] at this
end

theorem Rd.drop1p {α : Type} {cells : α → List Value} {w : World} {lo hi n c b off : Nat} {l : List α} (h : Rd cells 1 w lo hi (.slice (some ⟨b, off, none⟩) n c) l) {k : Nat} (hk : k ≤ n) : Rd cells 1 w lo hi (.slice (if c = k then some ⟨b, off, none⟩ else some ⟨b, off + k, none⟩) (n - k) (c - k)) (l.drop k) := by
  have := h.drop1 hk
  simpa [Go.WideShapes.add_plain] using this
theorem own_ge {w : World} {base n sz : Nat} {E : TypeId} {v : Value} {xs : List Value} (h : w.ownsRow base E sz v n xs) (j : Nat) (hj : v.ownBlock = some j) : base ≤ j := by
  rcases h.2 with ⟨rfl, _⟩ | ⟨g, cap, cur, rfl, hb, _⟩
  · simp [Value.ownBlock] at hj
  · simp [Value.ownBlock] at hj
    omega
theorem own_empty_at (w : World) {base g : Nat} (E : TypeId) (sz : Nat) (hg : g = w.heap.size) (hb : base ≤ w.heap.size) : (w.alloc (.cells #[] E)).ownsRow base E sz (.slice (some ⟨g, 0, none⟩) 0 0) 0 [] := by
  subst hg; exact own_empty w E sz hb
theorem rd_one {α : Type} {cells : α → List Value} {sz : Nat} {w : World} {g : Nat} {x : α} (h : ∀ (j : Nat) (u : Value), (cells x)[j]? = some u → w.cell? ⟨g, j, none⟩ = some u) : Rd cells sz w g (g + 1) (.slice (some ⟨g, 0, none⟩) 1 1) [x] := by
  refine ⟨some ⟨g, 0, none⟩, 1, rfl, by simp, by unfold maxLen; omega, fun _ => ⟨g, 0, rfl, Nat.le_refl _, by omega, fun i y hi j u hu => ?_⟩⟩
  match i with
  | 0 =>
    simp at hi; subst hi
    simpa using h j u hu
  | i + 1 => simp at hi

theorem Upd.tr {E : TypeId} {sz : Nat} {w w1 w2 : World} {b o : Nat} {xs ys zs : List Value} (h : Upd E sz w w1 b o xs ys) (k : Upd E sz w1 w2 b o ys zs) : Upd E sz w w2 b o xs zs := by
  refine ⟨grown_trans h.1 k.1, fun cur hh hs hc => ?_⟩
  obtain ⟨c1, e1, e2, e3, e4⟩ := h.2 cur hh hs hc
  obtain ⟨c2, g1, g2, g3, g4⟩ := k.2 c1 e1 (by omega) e3
  exact ⟨c2, g1, by omega, g3, fun j hj => (g4 j hj).trans (e4 j hj)⟩
/-- append of a slice that reads as a list, at a step of a region that draws -/
theorem step_app_rd {α : Type} {cells : α → List Value} {P : Program} {w : World} {ops : Array Oper} {o : Oper} {a : Act} {K : Act → World → Prop} {Q : Exit → Act → World → Prop} {E : Prop} (hgd : o.guard = none) (s x : Operand) (t : TypeId)
    (ho : o.op = .call { callee := .builtin .append, args := #[s, x], argTypes := #[t, t] })
    (base : Nat) (e : TypeId) (i : TypeInfo) (z : Value) (sz bytes : Nat) (ht : P.underlying t = some (.slice e)) (hi : P.info? e = some i) (hz : i.zero = some z)
    (hsize : i.size = sz) (hby : i.bytes = bytes) (hzs : z.cells.size = sz) (hsz : 0 < sz) (hcl : ∀ x, (cells x).length = sz) (h1 : ∀ y u, u ∈ cells y → u.oneCell' = true)
    (v : Value) (n : Nat) (xs : List Value) (hs : a.eval s = v) (hown : w.ownsRow base e sz v n xs) {lo hi' m c : Nat} {A : Option Addr} {l : List α} (hx : a.eval x = .slice A m c) (hr : Rd cells sz w lo hi' (.slice A m c) l)
    (h63 : n + m ≤ maxLen) (hbytes : (n + m) * bytes ≤ 140737488355328) (hbase : base ≤ w.heap.size)
    (h : ∀ v' w', w'.ownsRow base e sz v' (n + m) (xs ++ l.flatMap cells) → w.grownBy w' v.ownBlock → K (a.put o.dst v') w') : if Region.wanted o (yielded ops a.tmps) = true then Oper.wp P o a w K Q else E := by
  have hw : Region.wanted o (yielded ops a.tmps) = true := by simp [Region.wanted, hgd]
  rw [if_pos hw]
  obtain ⟨v', w', hrun, h2, h3⟩ := run_app_rd (P := P) w base t o.type e i z sz bytes ht hi hz hsize hby hzs hsz hcl h1 v n xs hown hr h63 hbytes hbase
  unfold Oper.wp execOp
  simp only [ho, resolve, invoke, builtin, Sem.run_bind, Sem.run_pure, Result.andThen_ok, List.map_toArray, List.map_cons, List.map_nil, hs, hx, hrun]
  exact h v' w' h2 h3

end Go.Proofs.YtaggjadgbmmjoaaDoor
