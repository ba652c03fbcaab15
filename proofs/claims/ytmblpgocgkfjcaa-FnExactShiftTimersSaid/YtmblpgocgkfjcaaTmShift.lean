/- Shifting timers, in the program and in the reference. No condition. -/
import Derived.Test.YtmblpgocgkfjcaaTmArm
namespace Go.Proofs.Ytmblpgocgkfjcaa
open Go.RowKit Go.ChangeShapes Go.WideShapes Go.Deep

def Tm.shift (by_ : Int) (t : Tm) : Tm := if t.armed then ⟨true, t.next + by_, t.every, t.irq⟩ else t
def Tm.shiftOk (l : List Tm) (x : Int) : Bool := (Tm.good l && inB x (-100000) 100000) && Tm.good (l.map (Tm.shift x))
def Tm.shiftR (l : List Tm) (x : Int) : List Tm := if Tm.shiftOk l x then l.map (Tm.shift x) else []
theorem Tm.shiftR_len (l : List Tm) (x : Int) : (Tm.shiftR l x).length ≤ 1048576 := by
  unfold Tm.shiftR
  split
  · rename_i h
    simp only [Tm.shiftOk, Bool.and_eq_true] at h
    have := Tm.good_len h.1.1
    simp; omega
  · simp

theorem implShiftTimers_any (v : Value) (l : List Tm) (x : Int) (w : World) {lo hi : Nat} (h : Rd Tm.cells 4 w lo hi v l) (hh : hi ≤ w.heap.size) :
    Calls Try.prog 31 #[v, .int .i64 x] w fun r w' => ∃ v', r = .returned (.tuple #[v', .bool (Tm.shiftOk l x)]) ∧ Ow Tm.cells 4 25 w' w.heap.size w'.heap.size v' (Tm.shiftR l x) ∧ (Tm.shiftR l x).length ≤ 1048576 ∧ Below w.heap.size w w' := by
  have hlen := Tm.shiftR_len l x
  have c1 := implAreTimers_any v l w h hh
  have c2 := fun W => inside_any x (-100000) 100000 W
  have hrd := h
  obtain ⟨A, n, c, rfl, H, hc, hm⟩ := h.form
  cases hg : Tm.good l
  · have HF := Lib.hid (show Tm.shiftOk l x = false ∧ Tm.shiftR l x = [] from by simp [Tm.shiftR, Tm.shiftOk, hg])
    rw [hg] at c1
    clear hg
    go_enter Try.func31, Try.ntmps31
    go_wp2_with fail
    refine c1.mono ?_; rintro q w1 ⟨rfl, b1⟩
    go_wp2_with fail
    go_ret2
    exact ⟨_, by rw [HF.out.1]; rfl, by rw [HF.out.2]; exact Ow.nil_, hlen, b1⟩
  · cases hi : inB x (-100000) 100000
    · have HF := Lib.hid (show Tm.shiftOk l x = false ∧ Tm.shiftR l x = [] from by simp [Tm.shiftR, Tm.shiftOk, hi])
      rw [hg] at c1
      rw [hi] at c2
      clear hg hi
      go_enter Try.func31, Try.ntmps31
      go_wp2_with fail
      refine c1.mono ?_; rintro q w1 ⟨rfl, b1⟩
      go_wp2_with fail
      refine (c2 _).mono ?_; rintro q w' ⟨rfl, rfl⟩
      go_wp2_with fail
      go_ret2
      exact ⟨_, by rw [HF.out.1]; rfl, by rw [HF.out.2]; exact Ow.nil_, hlen, b1⟩
    · have hx := inB_true hi
      have hn8 := Tm.good_len hg
      rw [← H.out] at hn8
      have HG := Lib.hid hg
      have HF := Lib.hid (show Tm.shiftOk l x = Tm.good (l.map (Tm.shift x)) ∧ Tm.shiftR l x = if Tm.good (l.map (Tm.shift x)) then l.map (Tm.shift x) else [] from by simp [Tm.shiftR, Tm.shiftOk, hg, hi])
      rw [hg] at c1
      rw [hi] at c2
      obtain ⟨hx1, hx2⟩ := hx
      clear hg hi
      go_enter Try.func31, Try.ntmps31
      go_wp2_with fail
      refine c1.mono ?_; rintro q w1 ⟨rfl, b1⟩
      go_wp2_with fail
      refine (c2 _).mono ?_; rintro q w' ⟨rfl, rfl⟩
      go_wp2_with fail
      have ho0 := own_empty w1 (base := w.heap.size) 25 4 b1.size
      have hb0 := b1.alloc b1.size (.cells #[] 25)
      generalize w1.alloc _ = w2 at ho0 hb0 ⊢
      go_loopw [6, 20] (fun v i wr => ∃ k : Nat, k ≤ n ∧ i = .int .i64 k ∧ Below w.heap.size w wr ∧ wr.ownsRow w.heap.size 25 4 v k (((l.take k).map (Tm.shift x)).flatMap Tm.cells)) (fun _ i _ => n - (intOf i).toNat)
      case atStart => exact ⟨0, Nat.zero_le _, rfl, hb0, ho0⟩
      case round =>
        clear ho0 hb0
        obtain ⟨k, hk, rfl, hb, hown⟩ := hrel
        by_cases hlt : k < n
        · obtain ⟨b, off, t, rfl, ht, _, hbl, f0, f1, f2, f3⟩ := Tm.get hrd hlt hb hh
          have hbw : b < wr.heap.size := by have := hb.size; omega
          have hok := Tm.good_ok HG.out ht.out
          simp only [Tm.ok, Bool.and_eq_true] at hok
          obtain ⟨ht1, ht2⟩ := inB_true hok.1
          clear hok
          cases ha : t.armed
          · have hS : Tm.shift x t = t := by simp [Tm.shift, ha]
            have HS := Lib.hid hS
            have HA := Lib.hid ha
            rw [ha] at f0
            clear hS ha
            go_wp2_with (at_builtin; refine Tm.app_one rfl _ _ rfl w.heap.size u6 k _ rfl ((hown.alloc _).alloc _) (g := wr.heap.size + 1) (c := 1) (Tm.shift x t) rfl ?hc0 (by omega) (by have := hb.size; simp; omega) ?_; rotate_left; intro v3 w3 hown3 hg3)
            go_roundw
            case rel =>
              refine ⟨k + 1, by omega, by go_num, ((hb.alloc hb.size _).alloc (by have := hb.size; simp; omega) _).grown hg3 (by have := hb.size; simp; omega) (fun j hj => (hown.lt j hj).1), ?_⟩
              rw [List.take_add_one, ht.out, List.map_append, List.flatMap_append]
              simpa using hown3
            case measure => simp [intOf]; omega
            case hc0 =>
              intro j u hu
              rw [HS.out] at hu
              exact cell_new _ _ _ (by simp) (by simpa [Tm.cells, HA.out] using hu)
          · have hS : Tm.shift x t = ⟨true, t.next + x, t.every, t.irq⟩ := by simp [Tm.shift, ha]
            have HS := Lib.hid hS
            have HA := Lib.hid ha
            rw [ha] at f0
            clear hS ha
            go_wp2_with (at_builtin; refine Tm.app_one rfl _ _ rfl w.heap.size u6 k _ rfl ((hown.alloc _).alloc _) (g := wr.heap.size + 1) (c := 1) (Tm.shift x t) rfl ?hc1 (by omega) (by have := hb.size; simp; omega) ?_; rotate_left; intro v3 w3 hown3 hg3)
            go_roundw
            case rel =>
              refine ⟨k + 1, by omega, by go_num, ((hb.alloc hb.size _).alloc (by have := hb.size; simp; omega) _).grown hg3 (by have := hb.size; simp; omega) (fun j hj => (hown.lt j hj).1), ?_⟩
              rw [List.take_add_one, ht.out, List.map_append, List.flatMap_append]
              simpa using hown3
            case measure => simp [intOf]; omega
            case hc1 =>
              intro j u hu
              rw [HS.out] at hu
              exact cell_new _ _ _ (by simp) (by simpa [Tm.cells] using hu)
        · go_wp2_with fail
          have hkn : k = n := by omega
          have hR : (((l.take k).map (Tm.shift x)).flatMap Tm.cells) = (l.map (Tm.shift x)).flatMap Tm.cells := by rw [List.take_of_length_le (by rw [← H.out]; omega)]
          rw [hR] at hown
          have ow := Ow.of_own Tm.cells_len hown rfl (by rw [List.length_map, ← H.out]; exact hkn)
          have c4 := implAreTimers_any _ _ wr ow.rd (Nat.le_refl _)
          clear hown hR
          cases hg3 : Tm.good (l.map (Tm.shift x))
          · rw [hg3] at c4
            have HF2 := Lib.hid hg3
            clear hg3
            go_wp2_with fail
            refine c4.mono ?_; rintro e w4 ⟨rfl, b4⟩
            go_wp2_with fail
            go_ret2
            exact ⟨_, by rw [HF.out.1, HF2.out]; rfl, by rw [HF.out.2, HF2.out]; exact Ow.nil_, hlen, hb.trans (b4.mono hb.size)⟩
          · rw [hg3] at c4
            have HF2 := Lib.hid hg3
            clear hg3
            go_wp2_with fail
            refine c4.mono ?_; rintro e w4 ⟨rfl, b4⟩
            go_wp2_with fail
            go_ret2
            refine ⟨_, by rw [HF.out.1, HF2.out]; rfl, ?_, hlen, hb.trans (b4.mono hb.size)⟩
            rw [HF.out.2, HF2.out]
            exact (ow.below b4 (Nat.le_refl _)).mono (Nat.le_refl _) b4.size

theorem specShiftTimers_any (v : Value) (l : List Tm) (x : Int) (w : World) {lo hi : Nat} (h : Rd Tm.cells 4 w lo hi v l) (hh : hi ≤ w.heap.size) :
    Calls Try.prog 30 #[v, .int .i64 x] w fun r w' => ∃ v', r = .returned (.tuple #[v', .bool (Tm.shiftOk l x)]) ∧ Rd Tm.cells 4 w' 0 w'.heap.size v' (Tm.shiftR l x) ∧ Below w.heap.size w w' := by
  have c1 := l11Good_any v l w h hh
  have c2 := fun W => l1In_any x (-100000) 100000 W
  have hrd := h
  obtain ⟨A, n, c, rfl, H, hc, hm⟩ := h.form
  cases hg : Tm.good l
  · have HF := Lib.hid (show Tm.shiftOk l x = false ∧ Tm.shiftR l x = [] from by simp [Tm.shiftR, Tm.shiftOk, hg])
    rw [hg] at c1
    clear hg
    go_enter Try.func30, Try.ntmps30
    go_wp2_with fail
    refine c1.mono ?_; rintro q w1 ⟨rfl, b1⟩
    go_wp2_with fail
    go_ret2
    exact ⟨_, by rw [HF.out.1]; rfl, by rw [HF.out.2]; exact Rd.empty (by decide), b1.alloc b1.size _⟩
  · cases hi : inB x (-100000) 100000
    · have HF := Lib.hid (show Tm.shiftOk l x = false ∧ Tm.shiftR l x = [] from by simp [Tm.shiftR, Tm.shiftOk, hi])
      rw [hg] at c1
      rw [hi] at c2
      clear hg hi
      go_enter Try.func30, Try.ntmps30
      go_wp2_with fail
      refine c1.mono ?_; rintro q w1 ⟨rfl, b1⟩
      go_wp2_with fail
      refine (c2 _).mono ?_; rintro q w' ⟨rfl, rfl⟩
      go_wp2_with fail
      go_ret2
      exact ⟨_, by rw [HF.out.1]; rfl, by rw [HF.out.2]; exact Rd.empty (by decide), b1.alloc b1.size _⟩
    · have hx := inB_true hi
      have hn8 := Tm.good_len hg
      rw [← H.out] at hn8
      have HG := Lib.hid hg
      have HF := Lib.hid (show Tm.shiftOk l x = Tm.good (l.map (Tm.shift x)) ∧ Tm.shiftR l x = if Tm.good (l.map (Tm.shift x)) then l.map (Tm.shift x) else [] from by simp [Tm.shiftR, Tm.shiftOk, hg, hi])
      rw [hg] at c1
      rw [hi] at c2
      obtain ⟨hx1, hx2⟩ := hx
      clear hg hi
      go_enter Try.func30, Try.ntmps30
      go_wp2_with fail
      refine c1.mono ?_; rintro q w1 ⟨rfl, b1⟩
      go_wp2_with fail
      refine (c2 _).mono ?_; rintro q w' ⟨rfl, rfl⟩
      replace hrd := hrd.below b1 hh
      go_wp2_with (at_builtin; refine Tm.app_rd rfl _ _ rfl w.heap.size (.slice (some ⟨w1.heap.size, 0, none⟩) 0 0) 0 [] rfl (World.ownsRow_lit _ #[] 0 b1.size (by decide) rfl) rfl (hrd.below (Below.alloc (Below.refl _ _) (Nat.le_refl _) _) (Nat.le_trans hh b1.size)) (by omega) (by have := b1.size; simp; omega) ?_; intro v2 w2 hown hg2; have ow := Ow.of_own Tm.cells_len hown (l := l) (by simp) (by rw [← H.out]; omega); have b2 : Below w.heap.size w w2 := ((b1.alloc b1.size _).grown hg2 (by have := b1.size; simp; omega) (by intro j hj; simp [Value.ownBlock] at hj; have := b1.size; omega)); clear hg2 hown)
      obtain ⟨A2, n2, cap2, rfl, hn2, hc2, hm2⟩ := ow.form
      obtain rfl : n = n2 := H.out.trans hn2.out.symm
      rw [← mapPre_zero (Tm.shift x) l] at ow
      go_loopw [7] (fun i wr => ∃ k : Nat, k ≤ n ∧ i = .int .i64 k ∧ Below w.heap.size w wr ∧ w2.heap.size ≤ wr.heap.size ∧ Ow Tm.cells 4 25 wr w.heap.size w2.heap.size (.slice A2 n cap2) (mapPre (Tm.shift x) l k)) (fun i _ => n - (intOf i).toNat)
      case atStart => exact ⟨0, Nat.zero_le _, rfl, b2, Nat.le_refl _, ow⟩
      case round =>
        clear ow
        obtain ⟨k, hk, rfl, hb, hb2, ow⟩ := hrel
        by_cases hlt : k < n
        · obtain ⟨g, off2, t, rfl, ht, hgb, hgl, f0, f1, f2, f3⟩ := Tm.get ow.rd hlt (Below.refl w2.heap.size wr) (Nat.le_refl _)
          have ht : Hid (l[k]? = some t) := (mapPre_get _ l k).symm.trans ht.out
          have hgw : g < wr.heap.size := by omega
          have hfz := ow.frozen (by omega)
          have hok := Tm.good_ok HG.out ht.out
          simp only [Tm.ok, Bool.and_eq_true] at hok
          obtain ⟨ht1, ht2⟩ := inB_true hok.1
          clear hok
          cases ha : t.armed
          · have hS : Tm.shift x t = t := by simp [Tm.shift, ha]
            have HS := Lib.hid hS
            have HA := Lib.hid ha
            rw [ha] at f0
            clear hS ha
            go_wp2_with fail
            go_roundw
            case rel =>
              generalize hw : World.setCell _ _ _ = w5
              obtain rfl : w5 = setL wr g (off2 + k * 4) [.bool false, .int .i64 t.next, .int .i64 t.every, .int .i64 t.irq] := hw.symm
              clear hw
              have s5 := setL_size [.bool false, .int .i64 t.next, .int .i64 t.every, .int .i64 t.irq] wr g (off2 + k * 4)
              refine ⟨k + 1, by omega, by go_num, (setL_below hb _ g _ hgb).alloc (setL_size_le hb.size) _, by rw [World.size_alloc, s5]; omega, ?_⟩
              rw [← mapPre_set (Tm.shift x) ht.out]
              refine (ow.upd Tm.cells_len (by omega) ((mapPre_get _ l k).trans ht.out) ?_).below ((Below.refl w2.heap.size _).alloc (by rw [s5]; exact hb2) _) (Nat.le_refl _)
              exact Upd.of_setL 0 (xs := t.cells) rfl (by rw [HS.out]; simp [Tm.cells, HA.out]) (by simp)
            case measure => simp [intOf]; omega
          · have hS : Tm.shift x t = ⟨true, t.next + x, t.every, t.irq⟩ := by simp [Tm.shift, ha]
            have HS := Lib.hid hS
            have HA := Lib.hid ha
            rw [ha] at f0
            clear hS ha
            go_wp2_with fail
            go_roundw
            case rel =>
              generalize hw : World.setCell _ _ _ = w5
              obtain rfl : w5 = setL wr g (off2 + k * 4) [.bool true, .int .i64 (t.next + x), .int .i64 t.every, .int .i64 t.irq] := hw.symm
              clear hw
              have s5 := setL_size [.bool true, .int .i64 (t.next + x), .int .i64 t.every, .int .i64 t.irq] wr g (off2 + k * 4)
              refine ⟨k + 1, by omega, by go_num, (setL_below hb _ g _ hgb).alloc (setL_size_le hb.size) _, by rw [World.size_alloc, s5]; omega, ?_⟩
              rw [← mapPre_set (Tm.shift x) ht.out]
              refine (ow.upd Tm.cells_len (by omega) ((mapPre_get _ l k).trans ht.out) ?_).below ((Below.refl w2.heap.size _).alloc (by rw [s5]; exact hb2) _) (Nat.le_refl _)
              exact Upd.of_setL 0 (xs := t.cells) rfl (by rw [HS.out]; simp [Tm.cells]) (by simp)
            case measure => simp [intOf]; omega
        · have hkn : k = n := by omega
          rw [mapPre_all _ _ (by rw [← H.out]; omega)] at ow
          have c4 := l11Good_any _ _ wr ow.rd hb2
          cases hg3 : Tm.good (l.map (Tm.shift x))
          · rw [hg3] at c4
            have HF2 := Lib.hid hg3
            clear hg3
            go_wp2_with fail
            refine c4.mono ?_; rintro e w4 ⟨rfl, b4⟩
            go_wp2_with fail
            go_ret2
            refine ⟨_, by rw [HF.out.1, HF2.out]; rfl, by rw [HF.out.2, HF2.out]; exact Rd.empty (by decide), ?_⟩
            exact (hb.trans (b4.mono hb.size)).alloc (by have := hb.size; have := b4.size; omega) _
          · rw [hg3] at c4
            have HF2 := Lib.hid hg3
            clear hg3
            go_wp2_with fail
            refine c4.mono ?_; rintro e w4 ⟨rfl, b4⟩
            go_wp2_with fail
            go_ret2
            refine ⟨_, by rw [HF.out.1, HF2.out]; rfl, ?_, hb.trans (b4.mono hb.size)⟩
            rw [HF.out.2, HF2.out]
            exact (ow.below b4 hb2).rd.mono (Nat.zero_le _) (by have := b4.size; omega)

end Go.Proofs.Ytmblpgocgkfjcaa
