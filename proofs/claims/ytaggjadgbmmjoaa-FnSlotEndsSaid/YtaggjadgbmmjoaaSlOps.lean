/- Putting an interrupt into a slot and ending one, in the program and in the reference: the inner functions. Conditions: at most 1048576 slots; for ending: valid slots. -/
import Derived.Test.YtaggjadgbmmjoaaSlAre
namespace Go.Proofs.Ytaggjadgbmmjoaa
open Go.RowKit Go.ChangeShapes Go.WideShapes Go.Deep

theorem find_cases {α : Type} (p : α → Bool) (l : List α) : (findIx p l = -1 ∧ l.any p = false) ∨ ∃ (k : Nat) (s : α), findIx p l = k ∧ k < l.length ∧ l[k]? = some s ∧ p s = true := by
  cases h : l.any p
  · exact .inl ⟨by simp [findIx, h], rfl⟩
  · obtain ⟨k, x, h1, h2, h3, h4, _⟩ := findIx_spec h
    exact .inr ⟨k, x, h1, h2, h3, h4⟩
theorem Ow.lit0 {α : Type} {cells : α → List Value} {sz : Nat} {E : TypeId} {w : World} {lo hi : Nat} {A : Option Addr} : Ow cells sz E w lo hi (.slice A 0 0) [] :=
  ⟨A, 0, rfl, Nat.le_refl _, by unfold maxLen; omega, fun h => absurd h (by simp)⟩
def Sl.at_ (l : List Sl) (k : Int) : Sl := l.getD k.toNat default
theorem Sl.at_get {l : List Sl} {k : Nat} {s : Sl} (h : l[k]? = some s) : Sl.at_ l (k : Int) = s := by simp [Sl.at_, h]
def Sl.ix (l : List Sl) (i : Int) : Int := findIx (Sl.has i) l
def Sl.fx (l : List Sl) : Int := findIx Sl.free l
def Sl.both (s : Sl) : Sl := if s.state = 2 then ⟨3, s.irq, s.prio⟩ else s
def Sl.putOk (l : List Sl) (i : Int) : Bool := decide (0 ≤ Sl.ix l i) || decide (0 ≤ Sl.fx l)
def Sl.putR (l : List Sl) (i p : Int) : List Sl :=
  if 0 ≤ Sl.ix l i then l.set (Sl.ix l i).toNat (Sl.both (Sl.at_ l (Sl.ix l i))) else if 0 ≤ Sl.fx l then l.set (Sl.fx l).toNat ⟨1, i, p⟩ else []
theorem Sl.putR_len (l : List Sl) (i p : Int) (h : l.length ≤ 1048576) : (Sl.putR l i p).length ≤ 1048576 := by
  unfold Sl.putR; split
  · simp; exact h
  · split
    · simp; exact h
    · simp
theorem Sl.put_hit {l : List Sl} {i p : Int} {k : Nat} {s : Sl} (h : Sl.ix l i = k) (hs : l[k]? = some s) : Sl.putOk l i = true ∧ Sl.putR l i p = l.set k (Sl.both s) := by
  simp [Sl.putOk, Sl.putR, h, Sl.at_get hs]
theorem Sl.put_new {l : List Sl} {i p : Int} {k : Nat} (h : Sl.ix l i = -1) (hf : Sl.fx l = k) : Sl.putOk l i = true ∧ Sl.putR l i p = l.set k ⟨1, i, p⟩ := by
  simp [Sl.putOk, Sl.putR, h, hf]
theorem Sl.put_no {l : List Sl} {i p : Int} (h : Sl.ix l i = -1) (hf : Sl.fx l = -1) : Sl.putOk l i = false ∧ Sl.putR l i p = [] := by
  simp [Sl.putOk, Sl.putR, h, hf]
def Sl.ended (s : Sl) : Sl := if s.state = 2 then ⟨0, 0, 0⟩ else ⟨1, s.irq, s.prio⟩
def Sl.endOk (l : List Sl) (i : Int) : Bool := decide (0 ≤ Sl.ix l i) && !((Sl.at_ l (Sl.ix l i)).state == 1)
def Sl.endR (l : List Sl) (i : Int) : List Sl := if Sl.endOk l i then l.set (Sl.ix l i).toNat (Sl.ended (Sl.at_ l (Sl.ix l i))) else []
theorem Sl.endR_len (l : List Sl) (i : Int) (h : l.length ≤ 1048576) : (Sl.endR l i).length ≤ 1048576 := by
  unfold Sl.endR; split
  · simp; exact h
  · simp
theorem Sl.end_hit {l : List Sl} {i : Int} {k : Nat} {s : Sl} (h : Sl.ix l i = k) (hs : l[k]? = some s) (h1 : ¬ s.state = 1) : Sl.endOk l i = true ∧ Sl.endR l i = l.set k (Sl.ended s) := by
  have : Sl.endOk l i = true := by simp [Sl.endOk, h, Sl.at_get hs, h1]
  exact ⟨this, by simp [Sl.endR, this, h, Sl.at_get hs]⟩
theorem Sl.end_no1 {l : List Sl} {i : Int} {k : Nat} {s : Sl} (h : Sl.ix l i = k) (hs : l[k]? = some s) (h1 : s.state = 1) : Sl.endOk l i = false ∧ Sl.endR l i = [] := by
  have : Sl.endOk l i = false := by simp [Sl.endOk, h, Sl.at_get hs, h1]
  exact ⟨this, by simp [Sl.endR, this]⟩
theorem Sl.end_no {l : List Sl} {i : Int} (h : Sl.ix l i = -1) : Sl.endOk l i = false ∧ Sl.endR l i = [] := by
  have : Sl.endOk l i = false := by simp [Sl.endOk, h]
  exact ⟨this, by simp [Sl.endR, this]⟩
theorem Sl.has_st {l : List Sl} (hg : Sl.good l = true) {k : Nat} {s : Sl} {i : Int} (hs : l[k]? = some s) (hp : Sl.has i s = true) : s.irq = i ∧ (s.state = 1 ∨ s.state = 2 ∨ s.state = 3) := by
  simp only [Sl.has, Bool.and_eq_true, Bool.not_eq_true', beq_eq_false_iff_ne, beq_iff_eq] at hp
  have h := Sl.good_one hg hs
  simp only [Sl.okAt, if_neg hp.1, Bool.and_eq_true] at h
  have := inB_true h.1
  exact ⟨hp.2, by omega⟩

set_option maxHeartbeats 1000000 in
theorem specWith_any (v : Value) (l : List Sl) (k : Nat) (x : Sl) (w : World) {lo hi : Nat} (h : Rd Sl.cells 3 w lo hi v l) (hh : hi ≤ w.heap.size) (hk : k < l.length) (hlen : l.length ≤ 1048576) :
    Calls Try.prog 39 #[v, .int .i64 k, x.val] w fun e w' => ∃ v', e = .returned v' ∧ Ow Sl.cells 3 33 w' w.heap.size w'.heap.size v' (l.set k x) ∧ Below w.heap.size w w' := by
  have hrd := h
  obtain ⟨A, n, c, rfl, H, hc, hm⟩ := h.form
  rw [← H.out] at hk hlen
  have HT := Lib.hid (show l[k]? = some (l[k]'(by rw [← H.out]; exact hk)) from List.getElem?_eq_getElem _)
  generalize l[k]'(by rw [← H.out]; exact hk) = t at HT
  have b1 := (Below.refl w.heap.size w).alloc (Nat.le_refl _) (.cells #[.int .i64 x.state, .int .i64 x.irq, .int .i64 x.prio] 33)
  have bcells : ∀ j u, (#[.int .i64 x.state, .int .i64 x.irq, .int .i64 x.prio] : Array Value)[j]? = some u → (w.alloc (.cells #[.int .i64 x.state, .int .i64 x.irq, .int .i64 x.prio] 33)).cell? ⟨w.heap.size, j, none⟩ = some u := fun j u hu => cell_new w _ _ rfl hu
  have HB := Lib.hid bcells
  have z1 : (w.alloc (.cells #[.int .i64 x.state, .int .i64 x.irq, .int .i64 x.prio] 33)).heap.size = w.heap.size + 1 := by simp
  clear bcells h
  unfold Sl.val
  go_enter Try.func39, Try.ntmps39
  go_wp2_with (at_builtin; (refine Sl.app_rd rfl _ _ rfl w.heap.size (.slice (some ⟨w.heap.size + 1, 0, none⟩) 0 0) 0 [] rfl (own_empty_at (w.alloc (.cells #[.int .i64 x.state, .int .i64 x.irq, .int .i64 x.prio] 33)) (base := w.heap.size) (g := w.heap.size + 1) 33 3 z1.symm (by omega)) rfl ((hrd.below b1 hh).below ((Below.refl _ _).alloc (Nat.le_refl _) _) (by omega)) (by omega) (by simp; omega) ?_); (intro v2 w2 hown hg2); (obtain ⟨g2, cap, rfl, hgb, hgl⟩ := hown.form (by omega)); (have hfz := hown.frozenAt); (have ow := Ow.of_own Sl.cells_len hown (l := l) (by simp) (by rw [← H.out]; omega)); (rw [Nat.zero_add] at ow); (obtain ⟨_, _, t', e, ht', _, hgl', q0, q1, q2⟩ := Sl.get ow.rd hk (Below.refl w2.heap.size w2) (Nat.le_refl _)); (injection e with e); (injection e with e1 e2); (subst e1); (subst e2); (simp only [Nat.zero_add] at q0 q1 q2); (have b2 : Below w.heap.size w w2 := ((b1.alloc b1.size _).grown hg2 (by have := b1.size; simp; omega) (by intro j hj; simp [Value.ownBlock] at hj; have := b1.size; omega))); (have bx : ∀ j u, (#[.int .i64 x.state, .int .i64 x.irq, .int .i64 x.prio] : Array Value)[j]? = some u → w2.cell? ⟨w.heap.size, j, none⟩ = some u := fun j u hu => hg2.cell (a := ⟨w.heap.size, j, none⟩) (by rw [World.cell?_alloc_lt _ _ _ (by simp)]; exact HB.out j u hu) (by simp [Value.ownBlock])); (have k0 := bx 0 _ rfl); (have k1 := bx 1 _ rfl); (have k2 := bx 2 _ rfl); (clear hown hg2 bx))
  go_ret
  generalize hw : World.setCell _ _ _ = w3
  obtain rfl : w3 = setL w2 g2 (k * 3) x.cells := hw.symm
  clear hw
  refine ⟨_, rfl, ?_, setL_below b2 x.cells g2 (k * 3) hgb⟩
  have hu : Upd 33 3 w2 (setL w2 g2 (0 + k * 3) x.cells) g2 (0 + k * 3) t.cells x.cells := Upd.of_setL 0 (ys := x.cells) rfl rfl (by simp [Sl.cells])
  have o3 := ow.upd Sl.cells_len (by omega) HT.out hu
  rw [Nat.zero_add] at o3
  exact o3.mono (Nat.le_refl _) (Nat.le_of_eq (setL_size _ w2 g2 (k * 3)).symm)


set_option maxHeartbeats 1000000 in
theorem implWith_any (v : Value) (l : List Sl) (k : Nat) (x : Sl) (w : World) {lo hi : Nat} (h : Rd Sl.cells 3 w lo hi v l) (hh : hi ≤ w.heap.size) (hk : k < l.length) (hlen : l.length ≤ 1048576) :
    Calls Try.prog 37 #[v, .int .i64 k, x.val] w fun e w' => ∃ v', e = .returned v' ∧ Ow Sl.cells 3 33 w' w.heap.size w'.heap.size v' (l.set k x) ∧ Below w.heap.size w w' := by
  have hrd := h
  obtain ⟨A, n, c, rfl, H, hc, hm⟩ := h.form
  rw [← H.out] at hk hlen
  have HT := Lib.hid (show l[k]? = some (l[k]'(by rw [← H.out]; exact hk)) from List.getElem?_eq_getElem _)
  generalize l[k]'(by rw [← H.out]; exact hk) = t at HT
  have b1 := (Below.refl w.heap.size w).alloc (Nat.le_refl _) (.cells #[.int .i64 x.state, .int .i64 x.irq, .int .i64 x.prio] 33)
  have bcells : ∀ j u, (#[.int .i64 x.state, .int .i64 x.irq, .int .i64 x.prio] : Array Value)[j]? = some u → (w.alloc (.cells #[.int .i64 x.state, .int .i64 x.irq, .int .i64 x.prio] 33)).cell? ⟨w.heap.size, j, none⟩ = some u := fun j u hu => cell_new w _ _ rfl hu
  have HB := Lib.hid bcells
  have z1 : (w.alloc (.cells #[.int .i64 x.state, .int .i64 x.irq, .int .i64 x.prio] 33)).heap.size = w.heap.size + 1 := by simp
  clear bcells h
  unfold Sl.val
  go_enter Try.func37, Try.ntmps37
  go_wp2_with (at_builtin; (refine Sl.app_rd rfl _ _ rfl w.heap.size (.slice (some ⟨w.heap.size + 1, 0, none⟩) 0 0) 0 [] rfl (own_empty_at (w.alloc (.cells #[.int .i64 x.state, .int .i64 x.irq, .int .i64 x.prio] 33)) (base := w.heap.size) (g := w.heap.size + 1) 33 3 z1.symm (by omega)) rfl ((hrd.below b1 hh).below ((Below.refl _ _).alloc (Nat.le_refl _) _) (by omega)) (by omega) (by simp; omega) ?_); (intro v2 w2 hown hg2); (obtain ⟨g2, cap, rfl, hgb, hgl⟩ := hown.form (by omega)); (have hfz := hown.frozenAt); (have ow := Ow.of_own Sl.cells_len hown (l := l) (by simp) (by rw [← H.out]; omega)); (rw [Nat.zero_add] at ow); (obtain ⟨_, _, t', e, ht', _, hgl', q0, q1, q2⟩ := Sl.get ow.rd hk (Below.refl w2.heap.size w2) (Nat.le_refl _)); (injection e with e); (injection e with e1 e2); (subst e1); (subst e2); (simp only [Nat.zero_add] at q0 q1 q2); (have b2 : Below w.heap.size w w2 := ((b1.alloc b1.size _).grown hg2 (by have := b1.size; simp; omega) (by intro j hj; simp [Value.ownBlock] at hj; have := b1.size; omega))); (have bx : ∀ j u, (#[.int .i64 x.state, .int .i64 x.irq, .int .i64 x.prio] : Array Value)[j]? = some u → w2.cell? ⟨w.heap.size, j, none⟩ = some u := fun j u hu => hg2.cell (a := ⟨w.heap.size, j, none⟩) (by rw [World.cell?_alloc_lt _ _ _ (by simp)]; exact HB.out j u hu) (by simp [Value.ownBlock])); (have k0 := bx 0 _ rfl); (have k1 := bx 1 _ rfl); (have k2 := bx 2 _ rfl); (clear hown hg2 bx))
  go_ret
  generalize hw : World.setCell _ _ _ = w3
  obtain rfl : w3 = setL w2 g2 (k * 3) x.cells := hw.symm
  clear hw
  refine ⟨_, rfl, ?_, setL_below b2 x.cells g2 (k * 3) hgb⟩
  have hu : Upd 33 3 w2 (setL w2 g2 (0 + k * 3) x.cells) g2 (0 + k * 3) t.cells x.cells := Upd.of_setL 0 (ys := x.cells) rfl rfl (by simp [Sl.cells])
  have o3 := ow.upd Sl.cells_len (by omega) HT.out hu
  rw [Nat.zero_add] at o3
  exact o3.mono (Nat.le_refl _) (Nat.le_of_eq (setL_size _ w2 g2 (k * 3)).symm)


theorem specFind_b (v : Value) (l : List Sl) (i : Int) (w : World) {lo hi : Nat} (h : Rd Sl.cells 3 w lo hi v l) (hh : hi ≤ w.heap.size) : Calls Try.prog 43 #[v, .int .i64 i] w fun e w' => e = .returned (.int .i64 (Sl.ix l i)) ∧ Below w.heap.size w w' :=
  (l8Find_any v l i w h hh).mono fun _ _ h => ⟨h.1, h.2 ▸ Below.refl _ _⟩
theorem implFind_b (v : Value) (l : List Sl) (i : Int) (w : World) {lo hi : Nat} (h : Rd Sl.cells 3 w lo hi v l) (hh : hi ≤ w.heap.size) : Calls Try.prog 34 #[v, .int .i64 i] w fun e w' => e = .returned (.int .i64 (Sl.ix l i)) ∧ Below w.heap.size w w' := findSlot_any v l i w h hh
theorem specFree_b (v : Value) (l : List Sl) (w : World) {lo hi : Nat} (h : Rd Sl.cells 3 w lo hi v l) (hh : hi ≤ w.heap.size) : Calls Try.prog 60 #[v] w fun e w' => e = .returned (.int .i64 (Sl.fx l)) ∧ Below w.heap.size w w' :=
  (l8Free_any v l w h hh).mono fun _ _ h => ⟨h.1, h.2 ▸ Below.refl _ _⟩
theorem implFree_b (v : Value) (l : List Sl) (w : World) {lo hi : Nat} (h : Rd Sl.cells 3 w lo hi v l) (hh : hi ≤ w.heap.size) : Calls Try.prog 58 #[v] w fun e w' => e = .returned (.int .i64 (Sl.fx l)) ∧ Below w.heap.size w w' := firstEmpty_any v l w h hh
theorem isActive_at (a b c : Int) (w : World) : Calls Try.prog 50 #[.agg #[.int .i64 a, .int .i64 b, .int .i64 c]] w fun e w' => e = .returned (.bool (a == 2 || a == 3)) ∧ Below w.heap.size w w' := by
  by_cases h2 : a = 2
  · subst h2
    go_enter Try.func50, Try.ntmps50
    go_wp2
    go_ret
    exact ⟨ret_bool (by simp), by go_grown⟩
  · by_cases h3 : a = 3
    · subst h3
      go_enter Try.func50, Try.ntmps50
      go_wp2
      go_ret
      exact ⟨ret_bool (by simp), by go_grown⟩
    · have HE := Lib.hid (show (a == 2 || a == 3) = false from by simp [h2, h3])
      go_enter Try.func50, Try.ntmps50
      go_wp2
      go_ret
      exact ⟨ret_bool (by rw [HE.out]; simp [h3]), by go_grown⟩
set_option maxHeartbeats 1000000 in
theorem specPut_in (v : Value) (l : List Sl) (i p : Int) (w : World) {lo hi : Nat} (h : Rd Sl.cells 3 w lo hi v l) (hh : hi ≤ w.heap.size) (hl : l.length ≤ 1048576) :
    Calls Try.prog 44 #[v, .int .i64 i, .int .i64 p] w fun r w' => ∃ v', r = .returned (.tuple #[v', .bool (Sl.putOk l i)]) ∧ Ow Sl.cells 3 33 w' w.heap.size w'.heap.size v' (Sl.putR l i p) ∧ Below w.heap.size w w' := by
  have c1 := specFind_b v l i w h hh
  have c2 := fun (W : World) (kb : Below w.heap.size w W) => specFree_b v l W (h.below kb hh) (Nat.le_trans hh kb.size)
  have c3 := fun (W : World) (kb : Below w.heap.size w W) (k : Nat) (s : Sl) (hk : k < l.length) => specWith_any v l k s W (h.below kb hh) (Nat.le_trans hh kb.size) hk hl
  have hrd := h
  obtain ⟨A, n, c, rfl, H, hc, hm⟩ := h.form
  rcases find_cases (Sl.has i) l with ⟨hf, _⟩ | ⟨k, s, hf, hk, hs, hp⟩
  · change Sl.ix l i = -1 at hf
    rw [hf] at c1
    rcases find_cases Sl.free l with ⟨hf2, _⟩ | ⟨k, s, hf2, hk, hs, hp⟩
    · change Sl.fx l = -1 at hf2
      rw [hf2] at c2
      have HF := Lib.hid (Sl.put_no (p := p) hf hf2)
      clear hf hf2 c3
      go_enter Try.func44, Try.ntmps44
      go_wp2_with fail
      refine c1.mono ?_; rintro q_ w1 ⟨rfl, b1⟩
      go_wp2_with fail
      refine (c2 _ b1).mono ?_; rintro q_ w2 ⟨rfl, b2⟩
      go_wp2_with fail
      go_ret2
      exact ⟨_, by rw [HF.out.1]; rfl, by rw [HF.out.2]; exact Ow.lit0, (b1.trans (b2.mono b1.size)).alloc (by have := b2.size; have := b1.size; omega) _⟩
    · change Sl.fx l = k at hf2
      rw [hf2] at c2
      have HF := Lib.hid (Sl.put_new (p := p) hf hf2)
      have c3 := fun W kb => c3 W kb k ⟨1, i, p⟩ hk
      unfold Sl.val at c3
      simp only at c3
      clear hf hf2 hs hp
      go_enter Try.func44, Try.ntmps44
      go_wp2_with fail
      refine c1.mono ?_; rintro q_ w1 ⟨rfl, b1⟩
      go_wp2_with fail
      refine (c2 _ b1).mono ?_; rintro q_ w2 ⟨rfl, b2⟩
      replace b1 := b1.trans (b2.mono b1.size)
      go_wp2_with fail
      refine (c3 _ b1).mono ?_; rintro q_ w3 ⟨v', rfl, o1, b3⟩
      have z3 := b1.size
      go_wp2_with fail
      go_ret2
      exact ⟨v', by rw [HF.out.1]; rfl, by rw [HF.out.2]; exact o1.mono z3 (Nat.le_refl _), b1.trans (b3.mono z3)⟩
  · change Sl.ix l i = k at hf
    rw [hf] at c1
    have HF := Lib.hid (Sl.put_hit (p := p) hf hs)
    have hkn : k < n := by rw [H.out]; exact hk
    have HT := Lib.hid hs
    clear hf hs hp c2
    by_cases h2 : s.state = 2
    · have HB := Lib.hid (show Sl.both s = ⟨3, s.irq, s.prio⟩ from by simp [Sl.both, h2])
      rw [HB.out] at HF
      have c3 := fun W kb => c3 W kb k ⟨3, s.irq, s.prio⟩ hk
      unfold Sl.val at c3
      simp only at c3
      go_enter Try.func44, Try.ntmps44
      go_wp2_with fail
      refine c1.mono ?_; rintro q_ w1 ⟨rfl, b1⟩
      obtain ⟨b, off, t, rfl, ht, _, hbl, f0, f1, f2⟩ := Sl.get hrd hkn b1 hh
      obtain rfl := Option.some.inj (HT.out.symm.trans ht.out)
      have hbw1 : b < w1.heap.size := by have := b1.size; omega
      rw [h2] at f0
      clear h2
      go_wp2_with fail
      refine (c3 _ ?bel).mono ?_
      case bel => first | exact (b1.alloc b1.size _) | exact setL_below (b1.alloc b1.size _) [_] _ _ b1.size
      rintro q_ w3 ⟨v', rfl, o1, b3⟩
      have z3 := b1.size
      go_wp2_with fail
      go_ret2
      exact ⟨v', by rw [HF.out.1]; rfl, by rw [HF.out.2]; exact o1.mono (by simp; omega) (Nat.le_refl _), (b1.alloc b1.size _).trans (b3.mono (by simp; omega))⟩
    · have HB := Lib.hid (show Sl.both s = s from by simp [Sl.both, h2])
      rw [HB.out] at HF
      have c3 := fun W kb => c3 W kb k s hk
      unfold Sl.val at c3
      go_enter Try.func44, Try.ntmps44
      go_wp2_with fail
      refine c1.mono ?_; rintro q_ w1 ⟨rfl, b1⟩
      obtain ⟨b, off, t, rfl, ht, _, hbl, f0, f1, f2⟩ := Sl.get hrd hkn b1 hh
      obtain rfl := Option.some.inj (HT.out.symm.trans ht.out)
      have hbw1 : b < w1.heap.size := by have := b1.size; omega
      go_wp2_with fail
      refine (c3 _ ?bel).mono ?_
      case bel => first | exact (b1.alloc b1.size _) | exact setL_below (b1.alloc b1.size _) [_] _ _ b1.size
      rintro q_ w3 ⟨v', rfl, o1, b3⟩
      have z3 := b1.size
      go_wp2_with fail
      go_ret2
      exact ⟨v', by rw [HF.out.1]; rfl, by rw [HF.out.2]; exact o1.mono (by simp; omega) (Nat.le_refl _), (b1.alloc b1.size _).trans (b3.mono (by simp; omega))⟩
set_option maxHeartbeats 1000000 in
theorem implPut_in (v : Value) (l : List Sl) (i p : Int) (w : World) {lo hi : Nat} (h : Rd Sl.cells 3 w lo hi v l) (hh : hi ≤ w.heap.size) (hl : l.length ≤ 1048576) :
    Calls Try.prog 41 #[v, .int .i64 i, .int .i64 p] w fun r w' => ∃ v', r = .returned (.tuple #[v', .bool (Sl.putOk l i)]) ∧ Ow Sl.cells 3 33 w' w.heap.size w'.heap.size v' (Sl.putR l i p) ∧ Below w.heap.size w w' := by
  have c1 := implFind_b v l i w h hh
  have c2 := fun (W : World) (kb : Below w.heap.size w W) => implFree_b v l W (h.below kb hh) (Nat.le_trans hh kb.size)
  have c3 := fun (W : World) (kb : Below w.heap.size w W) (k : Nat) (s : Sl) (hk : k < l.length) => implWith_any v l k s W (h.below kb hh) (Nat.le_trans hh kb.size) hk hl
  have hrd := h
  obtain ⟨A, n, c, rfl, H, hc, hm⟩ := h.form
  rcases find_cases (Sl.has i) l with ⟨hf, _⟩ | ⟨k, s, hf, hk, hs, hp⟩
  · change Sl.ix l i = -1 at hf
    rw [hf] at c1
    rcases find_cases Sl.free l with ⟨hf2, _⟩ | ⟨k, s, hf2, hk, hs, hp⟩
    · change Sl.fx l = -1 at hf2
      rw [hf2] at c2
      have HF := Lib.hid (Sl.put_no (p := p) hf hf2)
      clear hf hf2 c3
      go_enter Try.func41, Try.ntmps41
      go_wp2_with fail
      refine c1.mono ?_; rintro q_ w1 ⟨rfl, b1⟩
      go_wp2_with fail
      refine (c2 _ b1).mono ?_; rintro q_ w2 ⟨rfl, b2⟩
      go_wp2_with fail
      go_ret2
      exact ⟨_, by rw [HF.out.1]; rfl, by rw [HF.out.2]; exact Ow.nil_, b1.trans (b2.mono b1.size)⟩
    · change Sl.fx l = k at hf2
      rw [hf2] at c2
      have HF := Lib.hid (Sl.put_new (p := p) hf hf2)
      have c3 := fun W kb => c3 W kb k ⟨1, i, p⟩ hk
      unfold Sl.val at c3
      simp only at c3
      clear hf hf2 hs hp
      go_enter Try.func41, Try.ntmps41
      go_wp2_with fail
      refine c1.mono ?_; rintro q_ w1 ⟨rfl, b1⟩
      go_wp2_with fail
      refine (c2 _ b1).mono ?_; rintro q_ w2 ⟨rfl, b2⟩
      replace b1 := b1.trans (b2.mono b1.size)
      go_wp2_with fail
      refine (c3 _ b1).mono ?_; rintro q_ w3 ⟨v', rfl, o1, b3⟩
      have z3 := b1.size
      go_wp2_with fail
      go_ret2
      exact ⟨v', by rw [HF.out.1]; rfl, by rw [HF.out.2]; exact o1.mono z3 (Nat.le_refl _), b1.trans (b3.mono z3)⟩
  · change Sl.ix l i = k at hf
    rw [hf] at c1
    have HF := Lib.hid (Sl.put_hit (p := p) hf hs)
    have hkn : k < n := by rw [H.out]; exact hk
    have HT := Lib.hid hs
    clear hf hs hp c2
    by_cases h2 : s.state = 2
    · have HB := Lib.hid (show Sl.both s = ⟨3, s.irq, s.prio⟩ from by simp [Sl.both, h2])
      rw [HB.out] at HF
      have c3 := fun W kb => c3 W kb k ⟨3, s.irq, s.prio⟩ hk
      unfold Sl.val at c3
      simp only at c3
      go_enter Try.func41, Try.ntmps41
      go_wp2_with fail
      refine c1.mono ?_; rintro q_ w1 ⟨rfl, b1⟩
      obtain ⟨b, off, t, rfl, ht, _, hbl, f0, f1, f2⟩ := Sl.get hrd hkn b1 hh
      obtain rfl := Option.some.inj (HT.out.symm.trans ht.out)
      have hbw1 : b < w1.heap.size := by have := b1.size; omega
      rw [h2] at f0
      clear h2
      go_wp2_with fail
      refine (c3 _ ?bel).mono ?_
      case bel => first | exact (b1.alloc b1.size _) | exact setL_below (b1.alloc b1.size _) [_] _ _ b1.size
      rintro q_ w3 ⟨v', rfl, o1, b3⟩
      have z3 := b1.size
      go_wp2_with fail
      go_ret2
      exact ⟨v', by rw [HF.out.1]; rfl, by rw [HF.out.2]; exact o1.mono (by simp; omega) (Nat.le_refl _), (b1.alloc b1.size _).trans (b3.mono (by simp; omega))⟩
    · have HB := Lib.hid (show Sl.both s = s from by simp [Sl.both, h2])
      rw [HB.out] at HF
      have c3 := fun W kb => c3 W kb k s hk
      unfold Sl.val at c3
      go_enter Try.func41, Try.ntmps41
      go_wp2_with fail
      refine c1.mono ?_; rintro q_ w1 ⟨rfl, b1⟩
      obtain ⟨b, off, t, rfl, ht, _, hbl, f0, f1, f2⟩ := Sl.get hrd hkn b1 hh
      obtain rfl := Option.some.inj (HT.out.symm.trans ht.out)
      have hbw1 : b < w1.heap.size := by have := b1.size; omega
      go_wp2_with fail
      refine (c3 _ ?bel).mono ?_
      case bel => first | exact (b1.alloc b1.size _) | exact setL_below (b1.alloc b1.size _) [_] _ _ b1.size
      rintro q_ w3 ⟨v', rfl, o1, b3⟩
      have z3 := b1.size
      go_wp2_with fail
      go_ret2
      exact ⟨v', by rw [HF.out.1]; rfl, by rw [HF.out.2]; exact o1.mono (by simp; omega) (Nat.le_refl _), (b1.alloc b1.size _).trans (b3.mono (by simp; omega))⟩
set_option maxHeartbeats 1000000 in
theorem specEnd_in (v : Value) (l : List Sl) (i : Int) (w : World) {lo hi : Nat} (h : Rd Sl.cells 3 w lo hi v l) (hh : hi ≤ w.heap.size) (hg : Sl.good l = true) :
    Calls Try.prog 33 #[v, .int .i64 i] w fun r w' => ∃ v', r = .returned (.tuple #[v', .bool (Sl.endOk l i)]) ∧ Ow Sl.cells 3 33 w' w.heap.size w'.heap.size v' (Sl.endR l i) ∧ Below w.heap.size w w' := by
  have hl : l.length ≤ 1048576 := by rw [Sl.good_len hg]; decide
  have c1 := specFind_b v l i w h hh
  have c3 := fun (W : World) (kb : Below w.heap.size w W) (k : Nat) (s : Sl) (hk : k < l.length) => specWith_any v l k s W (h.below kb hh) (Nat.le_trans hh kb.size) hk hl
  have hrd := h
  obtain ⟨A, n, c, rfl, H, hc, hm⟩ := h.form
  rcases find_cases (Sl.has i) l with ⟨hf, _⟩ | ⟨k, s, hf, hk, hs, hp⟩
  · change Sl.ix l i = -1 at hf
    rw [hf] at c1
    have HF := Lib.hid (Sl.end_no hf)
    clear hf c3 hg
    go_enter Try.func33, Try.ntmps33
    go_wp2_with fail
    refine c1.mono ?_; rintro q_ w1 ⟨rfl, b1⟩
    go_wp2_with fail
    go_ret2
    exact ⟨_, by rw [HF.out.1]; rfl, by rw [HF.out.2]; exact Ow.lit0, b1.alloc b1.size _⟩
  · change Sl.ix l i = k at hf
    rw [hf] at c1
    have hkn : k < n := by rw [H.out]; exact hk
    have HT := Lib.hid hs
    obtain ⟨hirq, hst⟩ := Sl.has_st hg hs hp
    skip
    clear hp hg
    subst hirq
    rcases hst with hst | hst | hst
    · have HF := Lib.hid (Sl.end_no1 hf hs hst)
      skip
      clear hf hs c3
      go_enter Try.func33, Try.ntmps33
      go_wp2_with fail
      refine c1.mono ?_; rintro q_ w1 ⟨rfl, b1⟩
      obtain ⟨b, off, t, rfl, ht, _, hbl, f0, f1, f2⟩ := Sl.get hrd hkn b1 hh
      obtain rfl := Option.some.inj (HT.out.symm.trans ht.out)
      have hbw1 : b < w1.heap.size := by have := b1.size; omega
      rw [hst] at f0
      clear hst
      go_wp2_with fail
      go_ret2
      exact ⟨_, by rw [HF.out.1]; rfl, by rw [HF.out.2]; exact Ow.lit0, b1.alloc b1.size _⟩
    · have HF := Lib.hid (Sl.end_hit hf hs (by omega))
      have HB := Lib.hid (show Sl.ended s = ⟨0, 0, 0⟩ from by simp [Sl.ended, hst])
      rw [HB.out] at HF
      have c3 := fun W kb => c3 W kb k ⟨0, 0, 0⟩ hk
      unfold Sl.val at c3
      simp only at c3
      skip
      skip
      clear hf hs
      go_enter Try.func33, Try.ntmps33
      go_wp2_with fail
      refine c1.mono ?_; rintro q_ w1 ⟨rfl, b1⟩
      obtain ⟨b, off, t, rfl, ht, _, hbl, f0, f1, f2⟩ := Sl.get hrd hkn b1 hh
      obtain rfl := Option.some.inj (HT.out.symm.trans ht.out)
      have hbw1 : b < w1.heap.size := by have := b1.size; omega
      rw [hst] at f0
      clear hst
      go_wp2_with fail
      refine (c3 _ ?bel).mono ?_
      case bel => exact b1
      rintro q_ w3 ⟨v', rfl, o1, b3⟩
      have z3 := b1.size
      go_wp2_with fail
      go_ret2
      exact ⟨v', by rw [HF.out.1]; rfl, by rw [HF.out.2]; exact o1.mono z3 (Nat.le_refl _), b1.trans (b3.mono z3)⟩
    · have HF := Lib.hid (Sl.end_hit hf hs (by omega))
      have HB := Lib.hid (show Sl.ended s = ⟨1, s.irq, s.prio⟩ from by simp [Sl.ended, hst])
      rw [HB.out] at HF
      have c3 := fun W kb => c3 W kb k ⟨1, s.irq, s.prio⟩ hk
      unfold Sl.val at c3
      simp only at c3
      skip
      skip
      clear hf hs
      go_enter Try.func33, Try.ntmps33
      go_wp2_with fail
      refine c1.mono ?_; rintro q_ w1 ⟨rfl, b1⟩
      obtain ⟨b, off, t, rfl, ht, _, hbl, f0, f1, f2⟩ := Sl.get hrd hkn b1 hh
      obtain rfl := Option.some.inj (HT.out.symm.trans ht.out)
      have hbw1 : b < w1.heap.size := by have := b1.size; omega
      rw [hst] at f0
      clear hst
      go_wp2_with fail
      refine (c3 _ ?bel).mono ?_
      case bel => first | exact (b1.alloc b1.size _) | exact setL_below (b1.alloc b1.size _) [_] _ _ b1.size
      rintro q_ w3 ⟨v', rfl, o1, b3⟩
      have z3 := b1.size
      go_wp2_with fail
      go_ret2
      exact ⟨v', by rw [HF.out.1]; rfl, by rw [HF.out.2]; exact o1.mono (by simp; omega) (Nat.le_refl _), (b1.alloc b1.size _).trans (b3.mono (by simp; omega))⟩
set_option maxHeartbeats 1000000 in
theorem implEnd_in (v : Value) (l : List Sl) (i : Int) (w : World) {lo hi : Nat} (h : Rd Sl.cells 3 w lo hi v l) (hh : hi ≤ w.heap.size) (hg : Sl.good l = true) :
    Calls Try.prog 30 #[v, .int .i64 i] w fun r w' => ∃ v', r = .returned (.tuple #[v', .bool (Sl.endOk l i)]) ∧ Ow Sl.cells 3 33 w' w.heap.size w'.heap.size v' (Sl.endR l i) ∧ Below w.heap.size w w' := by
  have hl : l.length ≤ 1048576 := by rw [Sl.good_len hg]; decide
  have c1 := implFind_b v l i w h hh
  have c3 := fun (W : World) (kb : Below w.heap.size w W) (k : Nat) (s : Sl) (hk : k < l.length) => implWith_any v l k s W (h.below kb hh) (Nat.le_trans hh kb.size) hk hl
  have hrd := h
  obtain ⟨A, n, c, rfl, H, hc, hm⟩ := h.form
  rcases find_cases (Sl.has i) l with ⟨hf, _⟩ | ⟨k, s, hf, hk, hs, hp⟩
  · change Sl.ix l i = -1 at hf
    rw [hf] at c1
    have HF := Lib.hid (Sl.end_no hf)
    clear hf c3 hg
    go_enter Try.func30, Try.ntmps30
    go_wp2_with fail
    refine c1.mono ?_; rintro q_ w1 ⟨rfl, b1⟩
    go_wp2_with fail
    go_ret2
    exact ⟨_, by rw [HF.out.1]; rfl, by rw [HF.out.2]; exact Ow.nil_, b1⟩
  · change Sl.ix l i = k at hf
    rw [hf] at c1
    have hkn : k < n := by rw [H.out]; exact hk
    have HT := Lib.hid hs
    obtain ⟨hirq, hst⟩ := Sl.has_st hg hs hp
    have c4 := fun W => isActive_at s.state s.irq s.prio W
    clear hp hg
    subst hirq
    rcases hst with hst | hst | hst
    · have HF := Lib.hid (Sl.end_no1 hf hs hst)
      rw [hst] at c4
      clear hf hs c3
      go_enter Try.func30, Try.ntmps30
      go_wp2_with fail
      refine c1.mono ?_; rintro q_ w1 ⟨rfl, b1⟩
      obtain ⟨b, off, t, rfl, ht, _, hbl, f0, f1, f2⟩ := Sl.get hrd hkn b1 hh
      obtain rfl := Option.some.inj (HT.out.symm.trans ht.out)
      have hbw1 : b < w1.heap.size := by have := b1.size; omega
      rw [hst] at f0
      clear hst
      go_wp2_with fail
      refine (c4 _).mono ?_; rintro q_ w2 ⟨rfl, b2⟩
      replace b1 := b1.trans (b2.mono b1.size)
      go_wp2_with fail
      go_ret2
      exact ⟨_, by rw [HF.out.1]; rfl, by rw [HF.out.2]; exact Ow.nil_, b1⟩
    · have HF := Lib.hid (Sl.end_hit hf hs (by omega))
      have HB := Lib.hid (show Sl.ended s = ⟨0, 0, 0⟩ from by simp [Sl.ended, hst])
      rw [HB.out] at HF
      have c3 := fun W kb => c3 W kb k ⟨0, 0, 0⟩ hk
      unfold Sl.val at c3
      simp only at c3
      rw [hst] at c4
      skip
      clear hf hs
      go_enter Try.func30, Try.ntmps30
      go_wp2_with fail
      refine c1.mono ?_; rintro q_ w1 ⟨rfl, b1⟩
      obtain ⟨b, off, t, rfl, ht, _, hbl, f0, f1, f2⟩ := Sl.get hrd hkn b1 hh
      obtain rfl := Option.some.inj (HT.out.symm.trans ht.out)
      have hbw1 : b < w1.heap.size := by have := b1.size; omega
      rw [hst] at f0
      clear hst
      go_wp2_with fail
      refine (c4 _).mono ?_; rintro q_ w2 ⟨rfl, b2⟩
      replace f0 := (b2.cell (p := ⟨b, off + k * 3, none⟩) hbw1).trans f0
      replace f1 := (b2.cell (p := ⟨b, off + k * 3 + 1, none⟩) hbw1).trans f1
      replace f2 := (b2.cell (p := ⟨b, off + k * 3 + 2, none⟩) hbw1).trans f2
      replace hbw1 := Nat.lt_of_lt_of_le hbw1 b2.size
      replace b1 := b1.trans (b2.mono b1.size)
      clear b2
      go_wp2_with fail
      refine (c3 _ ?bel).mono ?_
      case bel => first | exact (b1.alloc b1.size _) | exact setL_below (b1.alloc b1.size _) [_] _ _ b1.size
      rintro q_ w3 ⟨v', rfl, o1, b3⟩
      have z3 := b1.size
      go_wp2_with fail
      go_ret2
      exact ⟨v', by rw [HF.out.1]; rfl, by rw [HF.out.2]; exact o1.mono (by simp; omega) (Nat.le_refl _), (b1.alloc b1.size _).trans (b3.mono (by simp; omega))⟩
    · have HF := Lib.hid (Sl.end_hit hf hs (by omega))
      have HB := Lib.hid (show Sl.ended s = ⟨1, s.irq, s.prio⟩ from by simp [Sl.ended, hst])
      rw [HB.out] at HF
      have c3 := fun W kb => c3 W kb k ⟨1, s.irq, s.prio⟩ hk
      unfold Sl.val at c3
      simp only at c3
      rw [hst] at c4
      skip
      clear hf hs
      go_enter Try.func30, Try.ntmps30
      go_wp2_with fail
      refine c1.mono ?_; rintro q_ w1 ⟨rfl, b1⟩
      obtain ⟨b, off, t, rfl, ht, _, hbl, f0, f1, f2⟩ := Sl.get hrd hkn b1 hh
      obtain rfl := Option.some.inj (HT.out.symm.trans ht.out)
      have hbw1 : b < w1.heap.size := by have := b1.size; omega
      rw [hst] at f0
      clear hst
      go_wp2_with fail
      refine (c4 _).mono ?_; rintro q_ w2 ⟨rfl, b2⟩
      replace f0 := (b2.cell (p := ⟨b, off + k * 3, none⟩) hbw1).trans f0
      replace f1 := (b2.cell (p := ⟨b, off + k * 3 + 1, none⟩) hbw1).trans f1
      replace f2 := (b2.cell (p := ⟨b, off + k * 3 + 2, none⟩) hbw1).trans f2
      replace hbw1 := Nat.lt_of_lt_of_le hbw1 b2.size
      replace b1 := b1.trans (b2.mono b1.size)
      clear b2
      go_wp2_with fail
      refine (c3 _ ?bel).mono ?_
      case bel => first | exact (b1.alloc b1.size _) | exact setL_below (b1.alloc b1.size _) [_] _ _ b1.size
      rintro q_ w3 ⟨v', rfl, o1, b3⟩
      have z3 := b1.size
      go_wp2_with fail
      go_ret2
      exact ⟨v', by rw [HF.out.1]; rfl, by rw [HF.out.2]; exact o1.mono (by simp; omega) (Nat.le_refl _), (b1.alloc b1.size _).trans (b3.mono (by simp; omega))⟩

end Go.Proofs.Ytaggjadgbmmjoaa
