/- Taking the lines of an interrupt, in the program. No condition. -/
import Derived.Test.YtgnalbfepkcokaaLnIrqs
namespace Go.Proofs.Ytgnalbfepkcokaa
open Go.RowKit Go.ChangeShapes Go.WideShapes Go.Deep

def Ln.takeIf (i : Int) (x : Ln) : Ln := if x.irq = i then x.take else x
def Ln.tkOk (l : List Ln) (i : Int) : Bool := Ln.good l && inB i 0 7
def Ln.tkR (l : List Ln) (i : Int) : List Ln := if Ln.tkOk l i then l.map (Ln.takeIf i) else []
def Ln.tkN (l : List Ln) (i : Int) : Int := if Ln.tkOk l i then (l.countP (Ln.atR i) : Nat) else 0
theorem Ln.tkR_len (l : List Ln) (i : Int) : (Ln.tkR l i).length ≤ 1048576 := by
  unfold Ln.tkR Ln.tkOk; split
  · rename_i h; simp only [Bool.and_eq_true] at h; have := Ln.good_len h.1; simp; omega
  · simp

set_option maxHeartbeats 1000000 in
theorem implTakeLines_any (v : Value) (l : List Ln) (x : Int) (w : World) {lo hi : Nat} (h : Rd Ln.cells 4 w lo hi v l) (hh : hi ≤ w.heap.size) :
    Calls Try.prog 23 #[v, .int .i64 x] w fun r w' => ∃ v', r = .returned (.tuple #[v', .int .i64 (Ln.tkN l x), .bool (Ln.tkOk l x)]) ∧ Ow Ln.cells 4 25 w' w.heap.size w'.heap.size v' (Ln.tkR l x) ∧ (Ln.tkR l x).length ≤ 1048576 ∧ Below w.heap.size w w' := by
  have hlen := Ln.tkR_len l x
  have b0 := (Below.refl w.heap.size w).alloc (Nat.le_refl _) (.cells #[.int .i64 x] 3)
  have k0 : (w.alloc (.cells #[.int .i64 x] 3)).cell? ⟨w.heap.size, 0, none⟩ = some (.int .i64 x) := by simp
  have z0 : w.heap.size < (w.alloc (.cells #[.int .i64 x] 3)).heap.size := by simp
  have hrd := h.below b0 hh
  have hh0 : hi ≤ (w.alloc (.cells #[.int .i64 x] 3)).heap.size := by omega
  have c2 := fun W => isIrq_any x W
  have hv := h.form
  clear h
  go_enter Try.func23, Try.ntmps23
  go_wp2_with fail
  generalize w.alloc _ = w0 at b0 k0 z0 hrd hh0 ⊢
  have c1 := implAreLines_any v l w0 hrd hh0
  obtain ⟨A, n, c, rfl, H, hc, hm⟩ := hv
  cases hg : Ln.good l
  · have HF := Lib.hid (show Ln.tkOk l x = false ∧ Ln.tkR l x = [] ∧ Ln.tkN l x = 0 from by simp [Ln.tkR, Ln.tkN, Ln.tkOk, hg])
    rw [hg] at c1
    clear hg
    refine c1.mono ?_; rintro q w1 ⟨rfl, b1⟩
    go_wp2_with fail
    go_ret3
    exact ⟨_, by rw [HF.out.1, HF.out.2.2]; rfl, by rw [HF.out.2.1]; exact Ow.nil_, hlen, b0.trans (b1.mono (by omega))⟩
  · cases hi2 : inB x 0 7
    · have HF := Lib.hid (show Ln.tkOk l x = false ∧ Ln.tkR l x = [] ∧ Ln.tkN l x = 0 from by simp [Ln.tkR, Ln.tkN, Ln.tkOk, hi2])
      rw [hg] at c1
      rw [hi2] at c2
      clear hg hi2
      refine c1.mono ?_; rintro q w1 ⟨rfl, b1⟩
      have k1 := (b1.cell (p := ⟨w.heap.size, 0, none⟩) z0).trans k0
      go_wp2_with fail
      refine (c2 _).mono ?_; rintro q w' ⟨rfl, rfl⟩
      go_wp2_with fail
      go_ret3
      exact ⟨_, by rw [HF.out.1, HF.out.2.2]; rfl, by rw [HF.out.2.1]; exact Ow.nil_, hlen, b0.trans (b1.mono (by omega))⟩
    · have HF := Lib.hid (show Ln.tkOk l x = true ∧ Ln.tkR l x = l.map (Ln.takeIf x) ∧ Ln.tkN l x = (l.countP (Ln.atR x) : Nat) from by simp [Ln.tkR, Ln.tkN, Ln.tkOk, hg, hi2])
      have hn6 := Ln.good_len hg
      rw [← H.out] at hn6
      rw [hg] at c1
      rw [hi2] at c2
      clear hg hi2
      refine c1.mono ?_; rintro q w1 ⟨rfl, b1⟩
      have k1 := (b1.cell (p := ⟨w.heap.size, 0, none⟩) z0).trans k0
      go_wp2_with fail
      refine (c2 _).mono ?_; rintro q w' ⟨rfl, rfl⟩
      go_wp2_with fail
      have ho0 := own_empty w1 (base := w0.heap.size) 25 4 b1.size
      have hb0 := b1.alloc b1.size (.cells #[] 25)
      generalize w1.alloc _ = w2 at ho0 hb0 ⊢
      clear b1 c1 k1
      go_loopw [7, 21] (fun v i wr => ∃ k : Nat, k ≤ n ∧ i = .int .i64 k ∧ Below w0.heap.size w0 wr ∧ wr.ownsRow w0.heap.size 25 4 v k (((l.take k).map (Ln.takeIf x)).flatMap Ln.cells)) (fun _ i _ => n - (intOf i).toNat)
      case atStart => exact ⟨0, Nat.zero_le _, rfl, hb0, ho0⟩
      case round =>
        clear ho0 hb0
        obtain ⟨k, hk, rfl, hb, hown⟩ := hrel
        have kr := (hb.cell (p := ⟨w.heap.size, 0, none⟩) z0).trans k0
        have hbs := hb.size
        by_cases hlt : k < n
        · obtain ⟨b, off, t, rfl, ht, _, hbl, f0, f1, f2, f3⟩ := Ln.get hrd hlt hb hh0
          have hbw : b < wr.heap.size := by omega
          have hwr : w.heap.size < wr.heap.size := by omega
          have hne : w.heap.size ≠ wr.heap.size := by omega
          have hm1 : (l.take (k + 1)).map (Ln.takeIf x) = (l.take k).map (Ln.takeIf x) ++ [Ln.takeIf x t] := by rw [List.take_add_one, ht.out]; simp
          have HM := Lib.hid hm1
          clear hm1
          by_cases hx : t.irq = x
          · have HT := Lib.hid (show Ln.takeIf x t = t.take from by simp [Ln.takeIf, hx])
            have c3 := fun W => taken_any t W
            generalize t.take = r at HT c3
            unfold Ln.val at c3
            rw [hx] at c3 f1
            clear hx
            go_wp2_with fail
            refine (c3 _).mono ?_; rintro q w3 ⟨rfl, b3⟩
            have g0 : w3.cell? ⟨wr.heap.size, 0, none⟩ = some (.int .i64 t.kind) := (b3.cell (p := ⟨wr.heap.size, 0, none⟩) (by simp)).trans (by simp)
            have g1 : w3.cell? ⟨wr.heap.size, 1, none⟩ = some (.int .i64 x) := (b3.cell (p := ⟨wr.heap.size, 1, none⟩) (by simp)).trans (by simp)
            have g2 : w3.cell? ⟨wr.heap.size, 2, none⟩ = some (.bool t.high) := (b3.cell (p := ⟨wr.heap.size, 2, none⟩) (by simp)).trans (by simp)
            have g3 : w3.cell? ⟨wr.heap.size, 3, none⟩ = some (.bool t.raised) := (b3.cell (p := ⟨wr.heap.size, 3, none⟩) (by simp)).trans (by simp)
            have fz : ∀ j, w3.frozen? ⟨wr.heap.size, j, none⟩ = false := fun j => ((bcell b3).2 wr.heap.size j (by simp)).trans (by simp)
            have ho3 := (hown.alloc (.cells #[.int .i64 t.kind, .int .i64 x, .bool t.high, .bool t.raised] 25)).kept (World.grownBy.mk b3.os b3.tape b3.output b3.size (fun k hk _ => b3.block k hk) : (wr.alloc (.cells #[.int .i64 t.kind, .int .i64 x, .bool t.high, .bool t.raised] 25)).grownBy w3 none) (by cases hv : u7.ownBlock <;> simp)
            have ho4 := ho3.kept (setL_grown [.int .i64 r.kind, .int .i64 r.irq, .bool r.high, .bool r.raised] w3 wr.heap.size 0) (.inr fun e => by have := (hown.lt _ e).2; omega)
            have hb3 := (hb.alloc hb.size (.cells #[.int .i64 t.kind, .int .i64 x, .bool t.high, .bool t.raised] 25)).trans (b3.mono (by simp; omega))
            have hb4 := setL_below hb3 [.int .i64 r.kind, .int .i64 r.irq, .bool r.high, .bool r.raised] wr.heap.size 0 hbs
            clear b3 ho3 hb3
            go_wp2_with (at_builtin; (refine Ln.app_one rfl _ _ rfl w0.heap.size u7 k _ rfl (ho4.alloc _) (g := w3.heap.size) (c := 1) r rfl ?hc0 (by omega) (by rw [World.size_alloc]; exact Nat.le_succ_of_le hb4.size) ?_); (rotate_left); (intro v4 w4 hown4 hg4))
            go_roundw
            case rel =>
              refine ⟨k + 1, by omega, by go_num, (hb4.alloc hb4.size _).grown hg4 (by rw [World.size_alloc]; exact Nat.le_succ_of_le hb4.size) (fun j hj => (ho4.lt j hj).1), ?_⟩
              rw [HM.out, HT.out, List.flatMap_append]
              simpa using hown4
            case measure => simp [intOf]; omega
            case hc0 =>
              intro j u hu
              exact cell_new _ _ _ (by simp) (by simpa [Ln.cells] using hu)
          · have HT := Lib.hid (show Ln.takeIf x t = t from by simp [Ln.takeIf, hx])
            go_wp2_with (at_builtin; (refine Ln.app_one rfl _ _ rfl w0.heap.size u7 k _ rfl ((hown.alloc _).alloc _) (g := wr.heap.size + 1) (c := 1) t rfl ?hc1 (by omega) (by simp <;> omega) ?_); (rotate_left); (intro v3 w3 hown3 hg3))
            go_roundw
            case rel =>
              refine ⟨k + 1, by omega, by go_num, ((hb.alloc hb.size _).alloc (by simp <;> omega) _).grown hg3 (by simp <;> omega) (fun j hj => (hown.lt j hj).1), ?_⟩
              rw [HM.out, HT.out, List.flatMap_append]
              simpa using hown3
            case measure => simp [intOf]; omega
            case hc1 =>
              intro j u hu
              exact cell_new _ _ _ (by simp) (by simpa [Ln.cells] using hu)
        · have hkn : k = n := by omega
          have c4 := countLines_any 82 #[.pointer (some ⟨w.heap.size, 0, none⟩)] (Ln.atR x) _ l wr (hrd.below hb hh0) (by omega) (enters Try.func82 (by kernel_rfl) rfl) (fun t W2 k2 => inTake_any x t W2 ((k2.cell (p := ⟨w.heap.size, 0, none⟩) (by simp; omega)).trans kr))
          go_wp2_with fail
          refine c4.mono ?_; rintro q w3 ⟨rfl, b3⟩
          go_wp2_with fail
          go_ret3
          refine ⟨_, by rw [HF.out.1, HF.out.2.2]; rfl, ?_, hlen, (b0.trans (hb.mono (by omega))).trans (b3.mono (by omega))⟩
          rw [HF.out.2.1]
          rw [hkn, List.take_of_length_le (by rw [← H.out]; omega)] at hown
          exact ((Ow.of_own Ln.cells_len hown rfl (by rw [List.length_map]; exact H.out)).below b3 (Nat.le_refl _)).mono (by omega) b3.size

theorem List.set_getElem?_self {α : Type} {l : List α} {k : Nat} {t : α} (h : l[k]? = some t) : l.set k t = l := by
  apply List.ext_getElem?
  intro j
  rw [List.getElem?_set]
  split
  · rename_i e; subst e; split
    · exact h.symm
    · rename_i hn; exact (List.getElem?_eq_none (by omega)).symm
  · rfl
set_option maxHeartbeats 1000000 in
theorem specTakeLines_any (v : Value) (l : List Ln) (x : Int) (w : World) {lo hi : Nat} (h : Rd Ln.cells 4 w lo hi v l) (hh : hi ≤ w.heap.size) :
    Calls Try.prog 24 #[v, .int .i64 x] w fun r w' => ∃ v', r = .returned (.tuple #[v', .int .i64 (Ln.tkN l x), .bool (Ln.tkOk l x)]) ∧ Rd Ln.cells 4 w' 0 w'.heap.size v' (Ln.tkR l x) ∧ Below w.heap.size w w' := by
  have c1 := l7Good_any v l w h hh
  have c2 := fun W => l6Irq_any x W
  have hrd := h
  obtain ⟨A, n, c, rfl, H, hc, hm⟩ := h.form
  cases hg : Ln.good l
  · have HF := Lib.hid (show Ln.tkOk l x = false ∧ Ln.tkR l x = [] ∧ Ln.tkN l x = 0 from by simp [Ln.tkR, Ln.tkN, Ln.tkOk, hg])
    rw [hg] at c1
    clear hg
    go_enter Try.func24, Try.ntmps24
    go_wp2_with fail
    refine c1.mono ?_; rintro q w1 ⟨rfl, b1⟩
    go_wp2_with fail
    go_ret3
    exact ⟨_, by rw [HF.out.1, HF.out.2.2]; rfl, by rw [HF.out.2.1]; exact Rd.empty (by decide), b1.alloc b1.size _⟩
  · cases hi2 : inB x 0 7
    · have HF := Lib.hid (show Ln.tkOk l x = false ∧ Ln.tkR l x = [] ∧ Ln.tkN l x = 0 from by simp [Ln.tkR, Ln.tkN, Ln.tkOk, hi2])
      rw [hg] at c1
      rw [hi2] at c2
      clear hg hi2
      go_enter Try.func24, Try.ntmps24
      go_wp2_with fail
      refine c1.mono ?_; rintro q w1 ⟨rfl, b1⟩
      go_wp2_with fail
      refine (c2 _).mono ?_; rintro q w' ⟨rfl, rfl⟩
      go_wp2_with fail
      go_ret3
      exact ⟨_, by rw [HF.out.1, HF.out.2.2]; rfl, by rw [HF.out.2.1]; exact Rd.empty (by decide), b1.alloc b1.size _⟩
    · have HF := Lib.hid (show Ln.tkOk l x = true ∧ Ln.tkR l x = l.map (Ln.takeIf x) ∧ Ln.tkN l x = (l.countP (Ln.atR x) : Nat) from by simp [Ln.tkR, Ln.tkN, Ln.tkOk, hg, hi2])
      have hn6 := Ln.good_len hg
      rw [← H.out] at hn6
      have HG := Lib.hid hg
      rw [hg] at c1
      rw [hi2] at c2
      clear hg hi2
      go_enter Try.func24, Try.ntmps24
      go_wp2_with fail
      refine c1.mono ?_; rintro q w1 ⟨rfl, b1⟩
      go_wp2_with fail
      refine (c2 _).mono ?_; rintro q w' ⟨rfl, rfl⟩
      replace hrd := hrd.below b1 hh
      go_wp2_with (at_builtin; (refine Ln.app_rd rfl _ _ rfl w.heap.size (.slice (some ⟨w1.heap.size, 0, none⟩) 0 0) 0 [] rfl (World.ownsRow_lit _ #[] 0 b1.size (by decide) rfl) rfl (hrd.below (Below.alloc (Below.refl _ _) (Nat.le_refl _) _) (Nat.le_trans hh b1.size)) (by omega) (by have := b1.size; simp; omega) ?_); (intro v2 w2 hown hg2); (have ow := Ow.of_own Ln.cells_len hown (l := l) (by simp) (by rw [← H.out]; omega)); (have b2 : Below w.heap.size w w2 := ((b1.alloc b1.size _).grown hg2 (by have := b1.size; simp; omega) (by intro j hj; simp [Value.ownBlock] at hj; have := b1.size; omega))); (clear hg2 hown))
      obtain ⟨A2, n2, cap2, rfl, hn2, hc2, hm2⟩ := ow.form
      obtain rfl : n = n2 := H.out.trans hn2.out.symm
      rw [← mapPre_zero (Ln.takeIf x) l] at ow
      go_loopw [8, 9] (fun q i wr => ∃ k : Nat, k ≤ n ∧ i = .int .i64 k ∧ q = .int .i64 ((l.take k).countP (Ln.atR x)) ∧ Below w.heap.size w wr ∧ w2.heap.size ≤ wr.heap.size ∧ Ow Ln.cells 4 25 wr w.heap.size w2.heap.size (.slice A2 n cap2) (mapPre (Ln.takeIf x) l k)) (fun _ i _ => n - (intOf i).toNat)
      case atStart => exact ⟨0, Nat.zero_le _, rfl, rfl, b2, Nat.le_refl _, ow⟩
      case round =>
        clear ow
        obtain ⟨k, hk, rfl, rfl, hb, hb2, ow⟩ := hrel
        have hq1 : (l.take k).countP (Ln.atR x) ≤ k := Nat.le_trans List.countP_le_length (by rw [List.length_take]; omega)
        by_cases hlt : k < n
        · obtain ⟨g, off2, t, rfl, ht, hgb, hgl, f0, f1, f2, f3⟩ := Ln.get ow.rd hlt (Below.refl w2.heap.size wr) (Nat.le_refl _)
          have ht : Hid (l[k]? = some t) := (mapPre_get _ l k).symm.trans ht.out
          have hok := Ln.good_ok HG.out ht.out
          have hs : (l.take (k + 1)).countP (Ln.atR x) = (l.take k).countP (Ln.atR x) + if Ln.atR x t = true then 1 else 0 := by
            rw [List.take_add_one, ht.out, List.countP_append]; simp
          generalize (l.take k).countP (Ln.atR x) = q at hs hq1 ⊢
          by_cases hx : t.irq = x
          · cases hr : t.raised
            · have HC := Lib.hid (show (l.take (k + 1)).countP (Ln.atR x) = q from by rw [hs]; simp [Ln.atR, hx, hr])
              have HT := Lib.hid (show Ln.takeIf x t = t.take from by simp [Ln.takeIf, hx])
              have c3 := fun W => l7Take_any t W hok
              generalize t.take = r at HT c3
              unfold Ln.val at c3
              rw [hx] at c3 f1
              rw [hr] at c3 f3
              have HX := Lib.hid hx
              have HR := Lib.hid hr
              clear hx hr hs hok
              go_wp2_with fail
              refine (c3 _).mono ?_; rintro e w4 ⟨rfl, b4⟩
              replace ow := ow.below b4 hb2
              replace hb := hb.trans (b4.mono hb.size)
              replace hb2 : w2.heap.size ≤ w4.heap.size := Nat.le_trans hb2 b4.size
              clear f0 f1 f2 f3 b4
              obtain ⟨_, _, t3, e, ht3, _, _, f0, f1, f2, f3⟩ := Ln.get ow.rd hlt (Below.refl w2.heap.size w4) (Nat.le_refl _)
              injection e with e
              injection e with e1 e2
              subst e1
              subst e2
              have hfz := ow.frozen (by omega)
              have hgw : g < w4.heap.size := by omega
              go_wp2_with fail
              go_roundw
              case rel =>
                generalize hw : World.setCell _ _ _ = w5
                obtain rfl : w5 = setL w4 g (off2 + k * 4) [.int .i64 r.kind, .int .i64 r.irq, .bool r.high, .bool r.raised] := hw.symm
                clear hw
                have s5 := setL_size [.int .i64 r.kind, .int .i64 r.irq, .bool r.high, .bool r.raised] w4 g (off2 + k * 4)
                refine ⟨k + 1, by omega, by go_num, by rw [HC.out], setL_below hb _ g _ hgb, by rw [s5]; exact hb2, ?_⟩
                rw [← mapPre_set (Ln.takeIf x) ht.out]
                refine ow.upd Ln.cells_len (by omega) ((mapPre_get _ l k).trans ht.out) ?_
                exact Upd.of_setL 0 (xs := t.cells) rfl (by rw [HT.out]; simp [Ln.cells]) (by simp)
              case measure => simp [intOf]; omega
            · have HC := Lib.hid (show (l.take (k + 1)).countP (Ln.atR x) = q + 1 from by rw [hs]; simp [Ln.atR, hx, hr])
              have HT := Lib.hid (show Ln.takeIf x t = t.take from by simp [Ln.takeIf, hx])
              have c3 := fun W => l7Take_any t W hok
              generalize t.take = r at HT c3
              unfold Ln.val at c3
              rw [hx] at c3 f1
              rw [hr] at c3 f3
              have HX := Lib.hid hx
              have HR := Lib.hid hr
              clear hx hr hs hok
              go_wp2_with fail
              refine (c3 _).mono ?_; rintro e w4 ⟨rfl, b4⟩
              replace ow := ow.below b4 hb2
              replace hb := hb.trans (b4.mono hb.size)
              replace hb2 : w2.heap.size ≤ w4.heap.size := Nat.le_trans hb2 b4.size
              clear f0 f1 f2 f3 b4
              obtain ⟨_, _, t3, e, ht3, _, _, f0, f1, f2, f3⟩ := Ln.get ow.rd hlt (Below.refl w2.heap.size w4) (Nat.le_refl _)
              injection e with e
              injection e with e1 e2
              subst e1
              subst e2
              have hfz := ow.frozen (by omega)
              have hgw : g < w4.heap.size := by omega
              go_wp2_with fail
              go_roundw
              case rel =>
                generalize hw : World.setCell _ _ _ = w5
                obtain rfl : w5 = setL w4 g (off2 + k * 4) [.int .i64 r.kind, .int .i64 r.irq, .bool r.high, .bool r.raised] := hw.symm
                clear hw
                have s5 := setL_size [.int .i64 r.kind, .int .i64 r.irq, .bool r.high, .bool r.raised] w4 g (off2 + k * 4)
                refine ⟨k + 1, by omega, by go_num, by rw [HC.out]; simp, setL_below hb _ g _ hgb, by rw [s5]; exact hb2, ?_⟩
                rw [← mapPre_set (Ln.takeIf x) ht.out]
                refine ow.upd Ln.cells_len (by omega) ((mapPre_get _ l k).trans ht.out) ?_
                exact Upd.of_setL 0 (xs := t.cells) rfl (by rw [HT.out]; simp [Ln.cells]) (by simp)
              case measure => simp [intOf]; omega
          · have HC := Lib.hid (show (l.take (k + 1)).countP (Ln.atR x) = q from by rw [hs]; simp [Ln.atR, hx])
            have HT := Lib.hid (show mapPre (Ln.takeIf x) l (k + 1) = mapPre (Ln.takeIf x) l k from by
              rw [← mapPre_set (Ln.takeIf x) ht.out, show Ln.takeIf x t = t from by simp [Ln.takeIf, hx]]
              exact List.set_getElem?_self ((mapPre_get _ l k).trans ht.out))
            clear hs
            go_wp2_with fail
            go_roundw
            case rel => exact ⟨k + 1, by omega, by go_num, by rw [HC.out], hb, hb2, by rw [HT.out]; exact ow⟩
            case measure => simp [intOf]; omega
        · have hkn : k = n := by omega
          go_wp2_with fail
          go_ret3
          refine ⟨_, by rw [HF.out.1, HF.out.2.2, hkn, List.take_of_length_le (by rw [← H.out]; omega)]; rfl, ?_, hb⟩
          rw [HF.out.2.1]
          rw [hkn, mapPre_all _ _ (by rw [← H.out]; omega)] at ow
          exact ow.rd.mono (Nat.zero_le _) hb2

end Go.Proofs.Ytgnalbfepkcokaa
