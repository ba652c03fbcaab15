/- The reader of choices of the reference's draws: a number of a bounded range, and only its own cell has turned. Condition: at most 1000000 reads. -/
import Derived.Test.YtgnalbfepkcokaaBox
import Derived.Test.YtgnalbfepkcokaaTyInt
import Derived.BigQuiet
import Derived.Deep.DeepCutAuto
import Derived.Laws.Bits64b
namespace Go.Proofs.Ytgnalbfepkcokaa
open Go.RowKit Go.ChangeShapes Go.WideShapes Go.Deep

def By.cells (x : UInt8) : List Value := [.int .u8 (x.toNat : Int)]
theorem By.cells_len (x : UInt8) : (By.cells x).length = 1 := rfl
theorem By.get {w : World} {lo hi : Nat} {A : Option Addr} {n c k : Nat} {l : List UInt8} (h : Rd By.cells 1 w lo hi (.slice A n c) l) (hk : k < n) {B : Nat} {wr : World} (hb : Below B w wr) (hB : hi ≤ B) :
    ∃ b off, ∃ t : Int, A = some ⟨b, off, none⟩ ∧ 0 ≤ t ∧ t ≤ 255 ∧ lo ≤ b ∧ b < hi ∧ wr.cell? ⟨b, off + k, none⟩ = some (.int .u8 t) := by
  obtain ⟨b, off, t, hA, hx, h1, h2, h3⟩ := h.get hk hb hB
  exact ⟨b, off, t.toNat, hA, by omega, by have := t.toNat_lt; omega, h1, h2, by simpa using h3 0 _ rfl⟩
set_option maxRecDepth 8000 in
theorem By.openS {H : Type} {enc : TypeId × Value → H} {w : World} {base : Nat} {spare : Nat → Bool} {held : Bool} {r : Reach} {b0 : Nat} {v : Value} {d : DataW H} {p : List MemPlace}
    (hv : Value.okWide Try.prog w r b0 22 v) (h : DataW.Trod enc Try.prog w base spare held 22 v d p) : ∃ l : List UInt8, Rd By.cells 1 w 0 w.heap.size v l :=
  open_rd1 (c := fun x : UInt8 => .int .u8 (x.toNat : Int)) Try.underlying22 (by kernel_rfl) (fun cs n y hy => by
    obtain ⟨a, e, _, hwf⟩ := DataW.trod_int Try.underlying5 hy
    simp only [Lit.wf, Bool.and_eq_true, decide_eq_true_eq] at hwf
    obtain ⟨h1, h2⟩ := hwf
    have h1' : 0 ≤ a := h1
    have h2' : a ≤ 255 := h2
    refine ⟨UInt8.ofNat a.toNat, ?_⟩
    rw [e]
    congr 2
    rw [UInt8.toNat_ofNat']
    omega) hv h

theorem grown_drewN {w w' : World} {row : Option Nat} (h : w.grownBy w' row) (n : Nat) : w.grownBy (w'.drewN n) row := ⟨h.os, h.tape, h.output, h.size, h.block⟩
theorem Box.grown0 {w w' : World} {g : Nat} {E : TypeId} {cs : List Value} (h : Box w g E cs) (hg : w.grownBy w' none) : Box w' g E cs := h.keep (hg.block g h.lt (by simp))
theorem grown_weaken {w w' : World} {row : Option Nat} (h : w.grownBy w' none) : w.grownBy w' row := ⟨h.os, h.tape, h.output, h.size, fun k hk _ => h.block k hk (by simp)⟩
def U64 (s : Int) : Prop := 0 ≤ s ∧ s < 18446744073709551616
theorem u64_wrap (n : Int) : U64 (IntKind.u64.wrap n) := by
  rw [IntKind.wrap_u64]
  unfold U64
  omega
theorem low8 (s : Int) (h : U64 s) : ∃ x : Int, wrap64 (bits BinOp.and IntKind.u64 (s / 1099511627776) 255) = x ∧ 0 ≤ x ∧ x ≤ 255 := by
  obtain ⟨n, rfl⟩ : ∃ n : Nat, s = n := ⟨s.toNat, by unfold U64 at h; omega⟩
  have h2 : n / 1099511627776 < 18446744073709551616 := by unfold U64 at h; omega
  have e : ((n : Int) / 1099511627776) = ((n / 1099511627776 : Nat) : Int) := by omega
  have hb := bits_and_u64_nat (n / 1099511627776) 255 h2 (by omega)
  have hl : (n / 1099511627776) &&& 255 ≤ 255 := Nat.and_le_right
  refine ⟨_, rfl, ?_⟩
  rw [e, show (255 : Int) = ((255 : Nat) : Int) from rfl, hb]
  unfold wrap64
  omega
/-- the reader at block g: at most k bytes have been asked for -/
def Cur (w : World) (g : Nat) (cv : Value) (k : Nat) : Prop := ∃ (a : Nat) (s : Int), a ≤ k ∧ Hid (U64 s) ∧ Box w g 80 [cv, .int .i64 a, .int .u64 s]

theorem Cur.lt {w : World} {g k : Nat} {cv : Value} (h : Cur w g cv k) : g < w.heap.size := by
  obtain ⟨a, s, _, _, b⟩ := h
  exact b.lt
theorem Cur.grown0 {w w' : World} {g k : Nat} {cv : Value} (h : Cur w g cv k) (hg : w.grownBy w' none) : Cur w' g cv k := by
  obtain ⟨a, s, h1, h2, b⟩ := h
  exact ⟨a, s, h1, h2, b.grown0 hg⟩
/-- only a block that the reader is not has turned -/
theorem Cur.other {w w' : World} {g k b : Nat} {cv : Value} (h : Cur w g cv k) (hg : w.grownBy w' (some b)) (hn : b ≠ g) : Cur w' g cv k := by
  obtain ⟨a, s, h1, h2, bx⟩ := h
  exact ⟨a, s, h1, h2, bx.keep (hg.block g bx.lt (fun e => hn (by injection e with e; exact e.symm)))⟩
theorem Cur.row {w w' : World} {g k : Nat} {cv : Value} {row : Option Nat} (h : Cur w g cv k) (hg : w.grownBy w' row) (hn : ∀ b, row = some b → b ≠ g) : Cur w' g cv k := by
  obtain ⟨a, s, h1, h2, bx⟩ := h
  exact ⟨a, s, h1, h2, bx.keep (hg.block g bx.lt (fun e => hn g e.symm rfl))⟩
theorem grown_alloc (w : World) (o : Obj) : w.grownBy (w.alloc o) none :=
  have b := (Below.refl w.heap.size w).alloc (Nat.le_refl _) o
  ⟨b.os, b.tape, b.output, b.size, fun k hk _ => b.block k hk⟩
/-- what has come since is new, but for one block's turning -/
theorem grown_new {w W W' : World} {row r2 : Option Nat} (h : w.grownBy W row) (k : W.grownBy W' r2) (hr : ∀ q, r2 = some q → w.heap.size ≤ q) : w.grownBy W' row :=
  ⟨k.os.trans h.os, k.tape.trans h.tape, k.output.trans h.output, Nat.le_trans h.size k.size, fun i hi hne => (k.block i (Nat.lt_of_lt_of_le hi h.size) (fun e => by have := hr i e.symm; omega)).trans (h.block i hi hne)⟩
theorem own_none (v : Value) : v.ownBlock = none ∨ v.ownBlock ≠ none := by cases v.ownBlock <;> simp
theorem Ow.apart {α : Type} {cells : α → List Value} {sz : Nat} {E : TypeId} {w w' : World} {lo hi : Nat} {v : Value} {l : List α} {row : Option Nat} (h : Ow cells sz E w lo hi v l) (hg : w.grownBy w' row) (hr : ∀ g, row = some g → g < lo ∨ hi ≤ g) : Ow cells sz E w' lo hi v l :=
  h.keep fun b h1 h2 h3 => hg.block b h3 (fun e => by have := hr b e.symm; omega)
theorem Ow.take_ {α : Type} {cells : α → List Value} {sz : Nat} {E : TypeId} {w : World} {lo hi n c : Nat} {A : Option Addr} {l : List α} (h : Ow cells sz E w lo hi (.slice A n c) l) {k : Nat} (hk : k ≤ n) : Ow cells sz E w lo hi (.slice A k c) (l.take k) := by
  obtain ⟨A', c', hv, hc, hm, h⟩ := h
  injection hv with e1 e2 e3
  subst e1; subst e2; subst e3
  have hl : (l.take k).length = k := by rw [List.length_take]; omega
  refine ⟨_, _, by rw [hl], by omega, hm, fun hn => ?_⟩
  obtain ⟨b, off, cur, hA, hb1, hb2, hh, hz, hx⟩ := h (by omega)
  refine ⟨b, off, cur, hA, hb1, hb2, hh, hz, fun i x hi j u hu => ?_⟩
  rw [List.getElem?_take] at hi
  split at hi
  · exact hx i x hi j u hu
  · cases hi
theorem lit_ints (w : World) (ns : List Int) (cs : Array Value) (n : Nat) (hn : n = ns.length) (hcs : cs.toList = ns.map fun x => .int .i64 x) (h1 : n ≤ 1000) : Rd Nm.cells 1 (w.alloc (.cells cs 3)) w.heap.size (w.heap.size + 1) (.slice (some ⟨w.heap.size, 0, none⟩) n n) ns := by
  subst hn
  have b := Box.new (g := w.heap.size) w cs 3 rfl
  refine ⟨_, _, rfl, Nat.le_refl _, by unfold maxLen; omega, fun _ => ⟨w.heap.size, 0, rfl, Nat.le_refl _, by omega, fun k x hx j u hu => ?_⟩⟩
  have hj : j < 1 := (List.getElem?_eq_some_iff.1 hu).1
  obtain rfl : j = 0 := by omega
  simp only [Nm.cells, List.getElem?_cons_zero, Option.some.injEq] at hu
  subst hu
  have := b.cell (j := k) (u := .int .i64 x) (by rw [hcs]; simp [hx])
  simpa using this
theorem next_any (g k : Nat) (cv : Value) (l : List UInt8) (w : World) {lo hi : Nat} (h : Rd By.cells 1 w lo hi cv l) (hh : hi ≤ w.heap.size) (hc : Cur w g cv k) (hk : k ≤ 1000000) :
    Calls Try.prog 123 #[.pointer (some ⟨g, 0, none⟩)] w fun e w' => ∃ x : Int, e = .returned (.int .i64 x) ∧ 0 ≤ x ∧ x ≤ 255 ∧ w.grownBy w' (some g) ∧ Cur w' g cv (k + 1) := by
  obtain ⟨a, s, ha, _, bx⟩ := hc
  obtain ⟨A, n, c, rfl, H, hnc, hm⟩ := h.form
  have x0 := bx.cell (j := 0) rfl
  have x1 := bx.cell (j := 1) rfl
  have x2 := bx.cell (j := 2) rfl
  have xz := bx.frozen
  have xl := bx.lt
  have haw : IntKind.i64.wrap ((a : Int) + 1) = (a : Int) + 1 := IntWalk.i64_in _ (by omega)
  by_cases hlt : a < n
  · obtain ⟨b, off, t, rfl, ht0, ht1, _, hbh, f0⟩ := By.get h hlt (Below.refl w.heap.size w) hh
    have hki : (a : Int) < (n : Int) := by omega
    have htw : IntKind.i64.wrap t = t := IntWalk.i64_in _ (by omega)
    have hle : decide ((a : Int) + 1 ≤ (n : Int)) = true := decide_eq_true (by omega)
    go_enter Try.func123, Try.ntmps123
    go_wp2_with fail
    go_quiet (fail)
    go_upto_region 3 with fail
    go_quiet (fail)
    go_upto_region 5 with fail
    generalize hwz : World.setCell _ _ _ = wz_
    obtain ⟨wq, gq, rfl⟩ : ∃ wq, w.grownBy wq none ∧ wz_ = setL wq g 1 [.int .i64 ((a : Int) + 1)] := ⟨_, by exact grown_drewN (World.grownBy.refl w _) _, hwz.symm⟩
    clear hwz x0 x1 x2 xz xl
    have bx1 := (bx.grown0 gq).set1 (j := 1) (.int .i64 ((a : Int) + 1)) (by simp)
    have g1 := grown_trans (row := some g) (grown_weaken gq) (setL_grown [.int .i64 ((a : Int) + 1)] wq g 1)
    generalize setL wq g 1 _ = w1 at *
    have x0 := bx1.cell (j := 0) rfl
    have x1 := bx1.cell (j := 1) rfl
    have x2 := bx1.cell (j := 2) rfl
    have xz := bx1.frozen
    have xl := bx1.lt
    go_upto_region 6 with fail
    generalize hwz : World.setCell _ _ _ = wz_
    obtain ⟨s', HS, rfl⟩ : ∃ s' : Int, Hid (U64 s') ∧ wz_ = setL w1 g 2 [.int .u64 s'] := ⟨_, Lib.hid (u64_wrap _), hwz.symm⟩
    clear hwz x0 x1 x2 xz xl
    have bx2 := bx1.set1 (j := 2) (.int .u64 s') (by simp)
    have g2 := grown_trans g1 (setL_grown [.int .u64 s'] w1 g 2)
    generalize setL w1 g 2 _ = w2 at *
    have x0 := bx2.cell (j := 0) rfl
    have x1 := bx2.cell (j := 1) rfl
    have x2 := bx2.cell (j := 2) rfl
    have xl := bx2.lt
    go_quiet (fail)
    go_wp2_with fail
    go_ret
    exact ⟨_, rfl, ht0, ht1, grown_drewN g2 _, a + 1, s', by omega, HS, bx2.drewN _⟩
  · have hki : ¬ (a : Int) < (n : Int) := by omega
    have hle : decide ((a : Int) + 1 ≤ (n : Int)) = false := decide_eq_false (by omega)
    go_enter Try.func123, Try.ntmps123
    go_wp2_with fail
    go_quiet (fail)
    go_upto_region 5 with fail
    generalize hwz : World.setCell _ _ _ = wz_
    obtain ⟨wq, gq, rfl⟩ : ∃ wq, w.grownBy wq none ∧ wz_ = setL wq g 1 [.int .i64 ((a : Int) + 1)] := ⟨_, by exact grown_drewN (World.grownBy.refl w _) _, hwz.symm⟩
    clear hwz x0 x1 x2 xz xl
    have bx1 := (bx.grown0 gq).set1 (j := 1) (.int .i64 ((a : Int) + 1)) (by simp)
    have g1 := grown_trans (row := some g) (grown_weaken gq) (setL_grown [.int .i64 ((a : Int) + 1)] wq g 1)
    generalize setL wq g 1 _ = w1 at *
    have x0 := bx1.cell (j := 0) rfl
    have x1 := bx1.cell (j := 1) rfl
    have x2 := bx1.cell (j := 2) rfl
    have xz := bx1.frozen
    have xl := bx1.lt
    go_upto_region 6 with fail
    generalize hwz : World.setCell _ _ _ = wz_
    obtain ⟨s', HS, rfl⟩ : ∃ s' : Int, Hid (U64 s') ∧ wz_ = setL w1 g 2 [.int .u64 s'] := ⟨_, Lib.hid (u64_wrap _), hwz.symm⟩
    clear hwz x0 x1 x2 xz xl
    have bx2 := bx1.set1 (j := 2) (.int .u64 s') (by simp)
    have g2 := grown_trans g1 (setL_grown [.int .u64 s'] w1 g 2)
    generalize setL w1 g 2 _ = w2 at *
    have x0 := bx2.cell (j := 0) rfl
    have x1 := bx2.cell (j := 1) rfl
    have x2 := bx2.cell (j := 2) rfl
    have xl := bx2.lt
    go_quiet (fail)
    go_wp2_with fail
    obtain ⟨x, hx, hx0, hx1⟩ := low8 s' HS.out
    rw [hx]
    go_ret
    exact ⟨x, rfl, hx0, hx1, grown_drewN g2 _, a + 1, s', by omega, HS, bx2.drewN _⟩
theorem Cur.mono {w : World} {g k k' : Nat} {cv : Value} (h : Cur w g cv k) (hk : k ≤ k') : Cur w g cv k' := by
  obtain ⟨a, s, h1, h2, h3⟩ := h
  exact ⟨a, s, by omega, h2, h3⟩
theorem emod_in {x n : Int} (hn : 1 < n) (hx : 0 ≤ x) : 0 ≤ x.tmod n ∧ x.tmod n < n := by
  rw [Int.tmod_eq_emod_of_nonneg hx]
  exact ⟨Int.emod_nonneg _ (by omega), Int.emod_lt_of_pos _ (by omega)⟩
theorem pick_any (g k : Nat) (cv : Value) (l : List UInt8) (n : Int) (w : World) {lo hi : Nat} (h : Rd By.cells 1 w lo hi cv l) (hh : hi ≤ w.heap.size) (hg : g < lo ∨ hi ≤ g) (hc : Cur w g cv k) (hk : k ≤ 900000) (hn : n ≤ 1000000) :
    Calls Try.prog 77 #[.pointer (some ⟨g, 0, none⟩), .int .i64 n] w fun e w' => ∃ x : Int, e = .returned (.int .i64 x) ∧ 0 ≤ x ∧ (x < n ∨ n < 1 ∧ x = 0) ∧ w.grownBy w' (some g) ∧ Cur w' g cv (k + 2) := by
  by_cases h1 : n ≤ 1
  · go_enter Try.func77, Try.ntmps77
    go_wp2_with fail
    go_ret
    exact ⟨0, rfl, by omega, by omega, World.grownBy.refl w _, hc.mono (by omega)⟩
  · have hnz : ¬ n = 0 := by omega
    have c1 := next_any g k cv l w h hh hc (by omega)
    by_cases h2 : n ≤ 200
    · have h2d : decide ((200 : Int) < n) = false := decide_eq_false (by omega)
      go_enter Try.func77, Try.ntmps77
      go_wp2_with fail
      refine c1.mono ?_; rintro q_ w1 ⟨x, rfl, hx0, hx1, g1, k1⟩
      go_wp2_with fail
      go_ret
      exact ⟨x % n, rfl, Int.emod_nonneg _ (by omega), .inl (Int.emod_lt_of_pos _ (by omega)), g1, k1.mono (by omega)⟩
    · have h2d : decide ((200 : Int) < n) = true := decide_eq_true (by omega)
      go_enter Try.func77, Try.ntmps77
      go_wp2_with fail
      refine c1.mono ?_; rintro q_ w1 ⟨x, rfl, hx0, hx1, g1, k1⟩
      have c2 := next_any g (k + 1) cv l w1 (h.grown g1 hh (fun q e => by injection e with e; omega)) (Nat.le_trans hh g1.size) k1 (by omega)
      go_wp2_with fail
      refine c2.mono ?_; rintro q_ w2 ⟨y, rfl, hy0, hy1, g2, k2⟩
      go_wp2_with fail
      go_ret
      exact ⟨(x * 256 + y) % n, rfl, Int.emod_nonneg _ (by omega), .inl (Int.emod_lt_of_pos _ (by omega)), grown_trans g1 g2, k2.mono (by omega)⟩
theorem one_any (g k : Nat) (cv : Value) (l : List UInt8) (n : Int) (w : World) {lo hi : Nat} (h : Rd By.cells 1 w lo hi cv l) (hh : hi ≤ w.heap.size) (hg : g < lo ∨ hi ≤ g) (hc : Cur w g cv k) (hk : k ≤ 900000) (hn : n ≤ 1000000) :
    Calls Try.prog 67 #[.pointer (some ⟨g, 0, none⟩), .int .i64 n] w fun e w' => ∃ b : Bool, e = .returned (.bool b) ∧ w.grownBy w' (some g) ∧ Cur w' g cv (k + 2) := by
  have c1 := pick_any g k cv l n w h hh hg hc hk hn
  go_enter Try.func67, Try.ntmps67
  go_wp2_with fail
  refine c1.mono ?_; rintro q_ w1 ⟨x, rfl, _, _, g1, k1⟩
  go_wp2_with fail
  go_ret
  exact ⟨_, rfl, g1, k1⟩
theorem among_any (g k : Nat) (cv nv : Value) (l : List UInt8) (ns : List Int) (w : World) {lo hi lo2 hi2 : Nat} (h : Rd By.cells 1 w lo hi cv l) (hh : hi ≤ w.heap.size) (hg : g < lo ∨ hi ≤ g) (h2 : Rd Nm.cells 1 w lo2 hi2 nv ns) (hh2 : hi2 ≤ w.heap.size) (hg2 : g < lo2 ∨ hi2 ≤ g) (hn0 : 0 < ns.length) (hn1 : ns.length ≤ 1000000) (hc : Cur w g cv k) (hk : k ≤ 900000) :
    Calls Try.prog 78 #[.pointer (some ⟨g, 0, none⟩), nv] w fun e w' => ∃ x : Int, e = .returned (.int .i64 x) ∧ w.grownBy w' (some g) ∧ Cur w' g cv (k + 2) := by
  obtain ⟨A, n, c, rfl, H, hnc, hm⟩ := h2.form
  have hnl : n = ns.length := H.out
  have hn2 : 0 < n := by omega
  have hn3 : n ≤ 1000000 := by omega
  clear hnl
  have c1 := pick_any g k cv l n w h hh hg hc hk (by omega)
  go_enter Try.func78, Try.ntmps78
  go_wp2_with fail
  refine c1.mono ?_; rintro q_ w1 ⟨x, rfl, hx0, hx1, g1, k1⟩
  have hxn : x < (n : Int) := by omega
  obtain ⟨j, rfl⟩ : ∃ j : Nat, x = j := ⟨x.toNat, by omega⟩
  have hjn : j < n := by omega
  clear hx1
  have h3 := h2.grown g1 hh2 (fun q e => by injection e with e; omega)
  obtain ⟨b, off, y, rfl, _, _, _, f0⟩ := Nm.get h3 hjn (Below.refl w1.heap.size w1) (Nat.le_trans hh2 g1.size)
  go_wp2_with fail
  go_ret
  exact ⟨y, rfl, g1, k1⟩

end Go.Proofs.Ytgnalbfepkcokaa
