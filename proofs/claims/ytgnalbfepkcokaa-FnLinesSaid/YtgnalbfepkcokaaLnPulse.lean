/- Pulsing a line, in the program and in the reference. No condition. -/
import Derived.Test.YtgnalbfepkcokaaLnCount
namespace Go.Proofs.Ytgnalbfepkcokaa
open Go.RowKit Go.ChangeShapes Go.WideShapes Go.Deep

def Ln.pulse (t : Ln) : Ln := (t.drive true).drive false
def Ln.pulseB (t : Ln) : Bool := (t.drive true).raised && !t.raised
def Ln.plK (t : Ln) : Nat → Ln × Int
  | 0 => (t, 0)
  | k + 1 => ((Ln.plK t k).1.pulse, (Ln.plK t k).2 + if (Ln.plK t k).1.pulseB then 1 else 0)
def Ln.plOk (l : List Ln) (i n : Int) : Bool := Ln.good l && (inB i 0 ((l.length : Int) - 1) && inB n 0 100)
def Ln.plR (l : List Ln) (i n : Int) : List Ln := if Ln.plOk l i n then (match l[i.toNat]? with | some t => l.set i.toNat (Ln.plK t n.toNat).1 | none => l) else []
def Ln.plN (l : List Ln) (i n : Int) : Int := if Ln.plOk l i n then (match l[i.toNat]? with | some t => (Ln.plK t n.toNat).2 | none => 0) else 0

theorem Ln.drive_kind (t : Ln) (h : Bool) : (t.drive h).kind = t.kind ∧ (t.drive h).irq = t.irq ∧ (t.drive h).high = h := ⟨rfl, rfl, rfl⟩
theorem Ln.drive_ok {t : Ln} (h : Bool) (hk : t.ok = true) : (t.drive h).ok = true := by
  simp only [Ln.ok, Bool.and_eq_true, Bool.or_eq_true, beq_iff_eq, Ln.drive] at *
  refine ⟨hk.1, ?_⟩
  rcases hk.2 with h1 | h1
  · exact .inl h1
  · exact .inr ⟨h1.1, by simp [h1.1]⟩
theorem Ln.plK_bd (t : Ln) : ∀ k : Nat, 0 ≤ (Ln.plK t k).2 ∧ (Ln.plK t k).2 ≤ k
  | 0 => by simp [Ln.plK]
  | k + 1 => by
    have := Ln.plK_bd t k
    simp only [Ln.plK]
    split <;> omega
theorem Ln.plK_ok {t : Ln} (h : t.ok = true) : ∀ k : Nat, (Ln.plK t k).1.ok = true
  | 0 => h
  | k + 1 => Ln.drive_ok _ (Ln.drive_ok _ (Ln.plK_ok h k))
theorem Ln.plR_len (l : List Ln) (i n : Int) : (Ln.plR l i n).length ≤ 1048576 := by
  unfold Ln.plR; split
  · rename_i h
    simp only [Ln.plOk, Bool.and_eq_true] at h
    have := Ln.good_len h.1
    split
    · simp; omega
    · omega
  · simp
/-- what the guards say -/
theorem Ln.pl_get {l : List Ln} {i n : Int} (h1 : inB i 0 ((l.length : Int) - 1) = true) (h2 : inB n 0 100 = true) : ∃ (k m : Nat) (t : Ln), i = k ∧ n = m ∧ k < l.length ∧ m ≤ 100 ∧ l[k]? = some t := by
  have h1 := inB_true h1
  have h2 := inB_true h2
  obtain ⟨k, rfl⟩ := Int.eq_ofNat_of_zero_le h1.1
  obtain ⟨m, rfl⟩ := Int.eq_ofNat_of_zero_le h2.1
  exact ⟨k, m, l[k]'(by omega), rfl, rfl, by omega, by omega, List.getElem?_eq_getElem _⟩

set_option maxHeartbeats 1000000 in
theorem implPulseLine_any (v : Value) (l : List Ln) (x y : Int) (w : World) {lo hi : Nat} (h : Rd Ln.cells 4 w lo hi v l) (hh : hi ≤ w.heap.size) :
    Calls Try.prog 20 #[v, .int .i64 x, .int .i64 y] w fun r w' => ∃ v', r = .returned (.tuple #[v', .int .i64 (Ln.plN l x y), .bool (Ln.plOk l x y)]) ∧ Ow Ln.cells 4 25 w' w.heap.size w'.heap.size v' (Ln.plR l x y) ∧ (Ln.plR l x y).length ≤ 1048576 ∧ Below w.heap.size w w' := by
  have hlen := Ln.plR_len l x y
  have c1 := implAreLines_any v l w h hh
  have c2 := fun W => inside_any x 0 ((l.length : Int) - 1) W
  have c3 := fun W => inside_any y 0 100 W
  have hrd := h
  obtain ⟨A, n, c, rfl, H, hc, hm⟩ := h.form
  cases hg : Ln.good l
  · have HF := Lib.hid (show Ln.plOk l x y = false ∧ Ln.plR l x y = [] ∧ Ln.plN l x y = 0 from by simp [Ln.plR, Ln.plN, Ln.plOk, hg])
    rw [hg] at c1
    clear hg
    go_enter Try.func20, Try.ntmps20
    go_wp2_with fail
    refine c1.mono ?_; rintro q w1 ⟨rfl, b1⟩
    go_wp2_with fail
    go_ret3
    exact ⟨_, by rw [HF.out.1, HF.out.2.2]; rfl, by rw [HF.out.2.1]; exact Ow.nil_, hlen, b1⟩
  · have hn6 := Ln.good_len hg
    rw [← H.out] at c2 hn6
    have hsub : IntKind.i64.wrap ((n : Int) - 1) = (n : Int) - 1 := IntWalk.i64_in _ (by omega)
    cases hx : inB x 0 ((n : Int) - 1)
    · have HF := Lib.hid (show Ln.plOk l x y = false ∧ Ln.plR l x y = [] ∧ Ln.plN l x y = 0 from by simp [Ln.plR, Ln.plN, Ln.plOk, ← H.out, hx])
      rw [hg] at c1
      rw [hx] at c2
      clear hg hx hsub
      go_enter Try.func20, Try.ntmps20
      go_wp2_with fail
      refine c1.mono ?_; rintro q w1 ⟨rfl, b1⟩
      go_wp2_with fail
      refine (c2 _).mono ?_; rintro q w' ⟨rfl, rfl⟩
      go_wp2_with fail
      go_ret3
      exact ⟨_, by rw [HF.out.1, HF.out.2.2]; rfl, by rw [HF.out.2.1]; exact Ow.nil_, hlen, b1⟩
    · cases hy : inB y 0 100
      · have HF := Lib.hid (show Ln.plOk l x y = false ∧ Ln.plR l x y = [] ∧ Ln.plN l x y = 0 from by simp [Ln.plR, Ln.plN, Ln.plOk, hy])
        rw [hg] at c1
        rw [hx] at c2
        rw [hy] at c3
        clear hg hx hy hsub
        go_enter Try.func20, Try.ntmps20
        go_wp2_with fail
        refine c1.mono ?_; rintro q w1 ⟨rfl, b1⟩
        go_wp2_with fail
        refine (c2 _).mono ?_; rintro q w' ⟨rfl, rfl⟩
        go_wp2_with fail
        refine (c3 _).mono ?_; rintro q w' ⟨rfl, rfl⟩
        go_wp2_with fail
        go_ret3
        exact ⟨_, by rw [HF.out.1, HF.out.2.2]; rfl, by rw [HF.out.2.1]; exact Ow.nil_, hlen, b1⟩
      · have hok : Ln.plOk l x y = true := by simp [Ln.plOk, hg, ← H.out, hx, hy]
        rw [hg] at c1
        rw [hx] at c2
        rw [hy] at c3
        obtain ⟨i, m, t, rfl, rfl, hil, hm100, ht⟩ := Ln.pl_get (by rw [← H.out]; exact hx) hy
        rw [← H.out] at hil
        have HF := Lib.hid (show Ln.plOk l i m = true ∧ Ln.plR l i m = l.set i (Ln.plK t m).1 ∧ Ln.plN l i m = (Ln.plK t m).2 from by simp [Ln.plR, Ln.plN, hok, ht])
        have HT := Lib.hid ht
        clear hg hx hy hsub hok ht
        go_enter Try.func20, Try.ntmps20
        go_wp2_with fail
        refine c1.mono ?_; rintro q w1 ⟨rfl, b1⟩
        go_wp2_with fail
        refine (c2 _).mono ?_; rintro q w' ⟨rfl, rfl⟩
        go_wp2_with fail
        refine (c3 _).mono ?_; rintro q w' ⟨rfl, rfl⟩
        replace hrd := hrd.below b1 hh
        go_wp2_with (at_builtin; (refine Ln.app_rd rfl _ _ rfl w.heap.size (.slice (some ⟨w1.heap.size, 0, none⟩) 0 0) 0 [] rfl (World.ownsRow_lit _ #[] 0 b1.size (by decide) rfl) rfl (hrd.below (Below.alloc (Below.refl _ _) (Nat.le_refl _) _) (Nat.le_trans hh b1.size)) (by omega) (by have := b1.size; simp; omega) ?_); (intro v2 w2 hown hg2); (have ow := Ow.of_own Ln.cells_len hown (l := l) (by simp) (by rw [← H.out]; omega)); (have b2 : Below w.heap.size w w2 := ((b1.alloc b1.size _).grown hg2 (by have := b1.size; simp; omega) (by intro j hj; simp [Value.ownBlock] at hj; have := b1.size; omega))); (clear hg2 hown))
        obtain ⟨A2, n2, cap2, rfl, hn2, hc2, hm2⟩ := ow.form
        obtain rfl : n = n2 := H.out.trans hn2.out.symm
        clear c1 c2 c3
        have ow0 : Ow Ln.cells 4 25 w2 w.heap.size w2.heap.size (.slice A2 n cap2) (l.set i (Ln.plK t 0).1) := by
          have : l.set i (Ln.plK t 0).1 = l := by
            apply List.ext_getElem?
            intro j
            rw [List.getElem?_set]
            split
            · rename_i e; subst e; rw [if_pos (by rw [← H.out]; omega)]; exact HT.out.symm
            · rfl
          rw [this]; exact ow
        clear ow
        have c4 := fun r b W => driven_any r b W
        unfold Ln.val at c4
        go_loopw [10, 32] (fun q j wr => ∃ k : Nat, k ≤ m ∧ j = .int .i64 k ∧ q = .int .i64 (Ln.plK t k).2 ∧ Below w.heap.size w wr ∧ w2.heap.size ≤ wr.heap.size ∧ Ow Ln.cells 4 25 wr w.heap.size w2.heap.size (.slice A2 n cap2) (l.set i (Ln.plK t k).1)) (fun _ j _ => m - (intOf j).toNat)
        case atStart => exact ⟨0, Nat.zero_le _, rfl, rfl, b2, Nat.le_refl _, ow0⟩
        case round =>
          clear ow0
          obtain ⟨k, hk, rfl, rfl, hb, hb2, ow⟩ := hrel
          by_cases hlt : k < m
          · have HS := Lib.hid (show (Ln.plK t (k + 1)).1 = ((Ln.plK t k).1.drive true).drive false ∧ (Ln.plK t (k + 1)).2 = (Ln.plK t k).2 + (if ((Ln.plK t k).1.drive true).raised && !(Ln.plK t k).1.raised then 1 else 0) from ⟨rfl, rfl⟩)
            have hbd := Ln.plK_bd t k
            have c4a := fun W => c4 (Ln.plK t k).1 true W
            have c4b := fun W => c4 ((Ln.plK t k).1.drive true) false W
            generalize (Ln.plK t k).2 = q at HS hbd ⊢
            generalize (Ln.plK t k).1 = r at HS c4a c4b ow
            generalize r.drive true = r1 at HS c4a c4b
            generalize r1.drive false = r2 at HS c4b
            obtain ⟨hbd1, hbd2⟩ := hbd
            have hbd3 : q ≤ 100 := by omega
            have HR := Lib.hid (show (l.set i r)[i]? = some r from by rw [List.getElem?_set, if_pos rfl, if_pos (by rw [← H.out]; omega)])
            obtain ⟨g, off2, t', rfl, ht', hgb, hgl, f0, f1, f2, f3⟩ := Ln.get ow.rd hil (Below.refl w2.heap.size wr) (Nat.le_refl _)
            obtain rfl := Option.some.inj (HR.out.symm.trans ht'.out)
            clear ht' c4
            go_wp2_with fail
            cases hr1 : r1.raised
            · have HC := Lib.hid (show (Ln.plK t (k + 1)).2 = q from by rw [HS.out.2]; simp [hr1])
              rw [hr1] at c4a c4b
              have HR1 := Lib.hid hr1
              clear hr1
              refine (c4a _).mono ?_; rintro e w3 ⟨rfl, b3⟩
              replace ow := ow.below b3 hb2
              replace hb := hb.trans (b3.mono hb.size)
              replace hb2 : w2.heap.size ≤ w3.heap.size := Nat.le_trans hb2 b3.size
              clear f0 f1 f2 f3 b3
              obtain ⟨_, _, t3, e, ht3, _, _, f0, f1, f2, f3⟩ := Ln.get ow.rd hil (Below.refl w2.heap.size w3) (Nat.le_refl _)
              injection e with e
              injection e with e1 e2
              subst e1
              subst e2
              obtain rfl := Option.some.inj (HR.out.symm.trans ht3.out)
              clear ht3
              have hgw : g < w3.heap.size := by omega
              go_wp2_with fail
              refine (c4b _).mono ?_; rintro e w5 ⟨rfl, b5⟩
              have hb4 := hb.alloc hb.size (.cells #[.int .i64 r1.kind, .int .i64 r1.irq, .bool r1.high, .bool false] 25)
              replace ow := (ow.below ((Below.refl w2.heap.size w3).alloc hb2 (.cells #[.int .i64 r1.kind, .int .i64 r1.irq, .bool r1.high, .bool false] 25)) (Nat.le_refl _)).below b5 (by simp; omega)
              replace hb := hb4.trans (b5.mono hb4.size)
              replace hb2 : w2.heap.size ≤ w5.heap.size := by have := b5.size; simp at this; omega
              clear f0 f1 f2 f3 b5 hb4
              obtain ⟨_, _, t3, e, ht3, _, _, f0, f1, f2, f3⟩ := Ln.get ow.rd hil (Below.refl w2.heap.size w5) (Nat.le_refl _)
              injection e with e
              injection e with e1 e2
              subst e1
              subst e2
              obtain rfl := Option.some.inj (HR.out.symm.trans ht3.out)
              clear ht3
              have hfz := ow.frozen (by omega)
              have hgw : g < w5.heap.size := by omega
              go_wp2_with fail
              go_roundw
              case rel =>
                generalize hw : World.setCell _ _ _ = w6
                obtain rfl : w6 = setL w5 g (off2 + i * 4) [.int .i64 r2.kind, .int .i64 r2.irq, .bool r2.high, .bool r2.raised] := hw.symm
                clear hw
                have s5 := setL_size [.int .i64 r2.kind, .int .i64 r2.irq, .bool r2.high, .bool r2.raised] w5 g (off2 + i * 4)
                refine ⟨k + 1, by omega, by go_num, by rw [HC.out], setL_below hb _ g _ hgb, by rw [s5]; exact hb2, ?_⟩
                rw [HS.out.1]
                have := ow.upd Ln.cells_len (by omega) HR.out (t' := r2) (Upd.of_setL 0 (xs := r.cells) (ys := [.int .i64 r2.kind, .int .i64 r2.irq, .bool r2.high, .bool r2.raised]) rfl (by simp [Ln.cells]) (by simp))
                rwa [List.set_set] at this
              case measure => simp [intOf]; omega
            · cases hr0 : r.raised
              · have HC := Lib.hid (show (Ln.plK t (k + 1)).2 = q + 1 from by rw [HS.out.2]; simp [hr1, hr0])
                rw [hr1] at c4a c4b
                have HR1 := Lib.hid hr1
                have HR0 := Lib.hid hr0
                rw [hr0] at c4a
                clear hr1 hr0
                refine (c4a _).mono ?_; rintro e w3 ⟨rfl, b3⟩
                replace ow := ow.below b3 hb2
                replace hb := hb.trans (b3.mono hb.size)
                replace hb2 : w2.heap.size ≤ w3.heap.size := Nat.le_trans hb2 b3.size
                clear f0 f1 f2 f3 b3
                obtain ⟨_, _, t3, e, ht3, _, _, f0, f1, f2, f3⟩ := Ln.get ow.rd hil (Below.refl w2.heap.size w3) (Nat.le_refl _)
                injection e with e
                injection e with e1 e2
                subst e1
                subst e2
                obtain rfl := Option.some.inj (HR.out.symm.trans ht3.out)
                clear ht3
                rw [HR0.out] at f3
                have hgw : g < w3.heap.size := by omega
                go_wp2_with fail
                refine (c4b _).mono ?_; rintro e w5 ⟨rfl, b5⟩
                have hb4 := hb.alloc hb.size (.cells #[.int .i64 r1.kind, .int .i64 r1.irq, .bool r1.high, .bool true] 25)
                replace ow := (ow.below ((Below.refl w2.heap.size w3).alloc hb2 (.cells #[.int .i64 r1.kind, .int .i64 r1.irq, .bool r1.high, .bool true] 25)) (Nat.le_refl _)).below b5 (by simp; omega)
                replace hb := hb4.trans (b5.mono hb4.size)
                replace hb2 : w2.heap.size ≤ w5.heap.size := by have := b5.size; simp at this; omega
                clear f0 f1 f2 f3 b5 hb4
                obtain ⟨_, _, t3, e, ht3, _, _, f0, f1, f2, f3⟩ := Ln.get ow.rd hil (Below.refl w2.heap.size w5) (Nat.le_refl _)
                injection e with e
                injection e with e1 e2
                subst e1
                subst e2
                obtain rfl := Option.some.inj (HR.out.symm.trans ht3.out)
                clear ht3
                have hfz := ow.frozen (by omega)
                have hgw : g < w5.heap.size := by omega
                go_wp2_with fail
                go_roundw
                case rel =>
                  generalize hw : World.setCell _ _ _ = w6
                  obtain rfl : w6 = setL w5 g (off2 + i * 4) [.int .i64 r2.kind, .int .i64 r2.irq, .bool r2.high, .bool r2.raised] := hw.symm
                  clear hw
                  have s5 := setL_size [.int .i64 r2.kind, .int .i64 r2.irq, .bool r2.high, .bool r2.raised] w5 g (off2 + i * 4)
                  refine ⟨k + 1, by omega, by go_num, by rw [HC.out], setL_below hb _ g _ hgb, by rw [s5]; exact hb2, ?_⟩
                  rw [HS.out.1]
                  have := ow.upd Ln.cells_len (by omega) HR.out (t' := r2) (Upd.of_setL 0 (xs := r.cells) (ys := [.int .i64 r2.kind, .int .i64 r2.irq, .bool r2.high, .bool r2.raised]) rfl (by simp [Ln.cells]) (by simp))
                  rwa [List.set_set] at this
                case measure => simp [intOf]; omega
              · have HC := Lib.hid (show (Ln.plK t (k + 1)).2 = q from by rw [HS.out.2]; simp [hr1, hr0])
                rw [hr1] at c4a c4b
                have HR1 := Lib.hid hr1
                have HR0 := Lib.hid hr0
                rw [hr0] at c4a
                clear hr1 hr0
                refine (c4a _).mono ?_; rintro e w3 ⟨rfl, b3⟩
                replace ow := ow.below b3 hb2
                replace hb := hb.trans (b3.mono hb.size)
                replace hb2 : w2.heap.size ≤ w3.heap.size := Nat.le_trans hb2 b3.size
                clear f0 f1 f2 f3 b3
                obtain ⟨_, _, t3, e, ht3, _, _, f0, f1, f2, f3⟩ := Ln.get ow.rd hil (Below.refl w2.heap.size w3) (Nat.le_refl _)
                injection e with e
                injection e with e1 e2
                subst e1
                subst e2
                obtain rfl := Option.some.inj (HR.out.symm.trans ht3.out)
                clear ht3
                rw [HR0.out] at f3
                have hgw : g < w3.heap.size := by omega
                go_wp2_with fail
                refine (c4b _).mono ?_; rintro e w5 ⟨rfl, b5⟩
                have hb4 := hb.alloc hb.size (.cells #[.int .i64 r1.kind, .int .i64 r1.irq, .bool r1.high, .bool true] 25)
                replace ow := (ow.below ((Below.refl w2.heap.size w3).alloc hb2 (.cells #[.int .i64 r1.kind, .int .i64 r1.irq, .bool r1.high, .bool true] 25)) (Nat.le_refl _)).below b5 (by simp; omega)
                replace hb := hb4.trans (b5.mono hb4.size)
                replace hb2 : w2.heap.size ≤ w5.heap.size := by have := b5.size; simp at this; omega
                clear f0 f1 f2 f3 b5 hb4
                obtain ⟨_, _, t3, e, ht3, _, _, f0, f1, f2, f3⟩ := Ln.get ow.rd hil (Below.refl w2.heap.size w5) (Nat.le_refl _)
                injection e with e
                injection e with e1 e2
                subst e1
                subst e2
                obtain rfl := Option.some.inj (HR.out.symm.trans ht3.out)
                clear ht3
                have hfz := ow.frozen (by omega)
                have hgw : g < w5.heap.size := by omega
                go_wp2_with fail
                go_roundw
                case rel =>
                  generalize hw : World.setCell _ _ _ = w6
                  obtain rfl : w6 = setL w5 g (off2 + i * 4) [.int .i64 r2.kind, .int .i64 r2.irq, .bool r2.high, .bool r2.raised] := hw.symm
                  clear hw
                  have s5 := setL_size [.int .i64 r2.kind, .int .i64 r2.irq, .bool r2.high, .bool r2.raised] w5 g (off2 + i * 4)
                  refine ⟨k + 1, by omega, by go_num, by rw [HC.out], setL_below hb _ g _ hgb, by rw [s5]; exact hb2, ?_⟩
                  rw [HS.out.1]
                  have := ow.upd Ln.cells_len (by omega) HR.out (t' := r2) (Upd.of_setL 0 (xs := r.cells) (ys := [.int .i64 r2.kind, .int .i64 r2.irq, .bool r2.high, .bool r2.raised]) rfl (by simp [Ln.cells]) (by simp))
                  rwa [List.set_set] at this
                case measure => simp [intOf]; omega
          · have hkm : k = m := by omega
            subst hkm
            go_wp2_with fail
            go_ret3
            refine ⟨_, by rw [HF.out.1, HF.out.2.2]; rfl, ?_, hlen, hb⟩
            rw [HF.out.2.1]
            exact ow.mono (Nat.le_refl _) hb2

end Go.Proofs.Ytgnalbfepkcokaa
