/- Evicting the least urgent pending interrupt, in the program and in the reference. No condition. -/
import Derived.Test.YtaggjadgbmmjoaaSlTake
import Derived.Test.YtaggjadgbmmjoaaSlBn
namespace Go.Proofs.Ytaggjadgbmmjoaa
open Go.RowKit Go.ChangeShapes Go.WideShapes Go.Deep

def Sl.evOk (l : List Sl) : Bool := Sl.good l && decide (0 ≤ Sl.bn l)
def Sl.evR (l : List Sl) : List Sl := if Sl.evOk l then l.set (Sl.bn l).toNat ⟨0, 0, 0⟩ else []
def Sl.evV (l : List Sl) : Sl := if Sl.evOk l then Sl.at_ l (Sl.bn l) else ⟨0, 0, 0⟩
theorem Sl.evR_len (l : List Sl) : (Sl.evR l).length ≤ 1048576 := by
  unfold Sl.evR; split
  · rename_i h
    simp only [Sl.evOk, Bool.and_eq_true] at h
    rw [List.length_set, Sl.good_len h.1]; decide
  · simp
theorem Sl.ev_no {l : List Sl} (h : Sl.evOk l = false) : Sl.evOk l = false ∧ Sl.evR l = [] ∧ Sl.evV l = ⟨0, 0, 0⟩ := by simp [Sl.evR, Sl.evV, h]
theorem Sl.ev_yes {l : List Sl} (hg : Sl.good l = true) {k : Nat} {s : Sl} (h : Sl.bn l = k) (hs : l[k]? = some s) : Sl.evOk l = true ∧ Sl.evR l = l.set k ⟨0, 0, 0⟩ ∧ Sl.evV l = s := by
  have h1 : Sl.evOk l = true := by simp [Sl.evOk, hg, h]
  simp [Sl.evR, Sl.evV, h1, h, Sl.at_get hs]

theorem Sl.box {w : World} {g lo hi : Nat} {x : Sl} (h : Rd Sl.cells 3 w lo hi (.slice (some ⟨g, 0, none⟩) 1 1) [x]) : w.cell? ⟨g, 0, none⟩ = some (.int .i64 x.state) ∧ w.cell? ⟨g, 1, none⟩ = some (.int .i64 x.irq) ∧ w.cell? ⟨g, 2, none⟩ = some (.int .i64 x.prio) := by
  obtain ⟨A, c, hv, _, _, h⟩ := h
  injection hv with e1 e2 e3
  subst e1
  obtain ⟨b, off, hA, _, _, h⟩ := h (by simp)
  injection hA with hA
  injection hA with e4 e5
  subst e4; subst e5
  exact ⟨by simpa using h 0 x rfl 0 _ rfl, by simpa using h 0 x rfl 1 _ rfl, by simpa using h 0 x rfl 2 _ rfl⟩

set_option maxHeartbeats 4000000 in
theorem specEvictSlot_any (v : Value) (l : List Sl) (w : World) {lo hi : Nat} (h : Rd Sl.cells 3 w lo hi v l) (hh : hi ≤ w.heap.size) :
    Calls Try.prog 12 #[v] w fun r w' => ∃ v', r = .returned (.tuple #[v', .agg #[.int .i64 (Sl.evV l).state, .int .i64 (Sl.evV l).irq, .int .i64 (Sl.evV l).prio], .bool (Sl.evOk l)]) ∧ Rd Sl.cells 3 w' 0 w'.heap.size v' (Sl.evR l) ∧ Below w.heap.size w w' := by
  skip
  have b0 := (Below.refl w.heap.size w).alloc (Nat.le_refl _) (.cells #[.int .i64 0, .int .i64 0, .int .i64 0] 33)
  have z0 : (w.alloc (.cells #[.int .i64 0, .int .i64 0, .int .i64 0] 33)).heap.size = w.heap.size + 1 := by simp
  have k0 : (w.alloc (.cells #[.int .i64 0, .int .i64 0, .int .i64 0] 33)).cell? ⟨w.heap.size, 0, none⟩ = some (.int .i64 0) := by simp
  have k1 : (w.alloc (.cells #[.int .i64 0, .int .i64 0, .int .i64 0] 33)).cell? ⟨w.heap.size, 1, none⟩ = some (.int .i64 0) := by simp
  have k2 : (w.alloc (.cells #[.int .i64 0, .int .i64 0, .int .i64 0] 33)).cell? ⟨w.heap.size, 2, none⟩ = some (.int .i64 0) := by simp
  have kz : ∀ j, (w.alloc (.cells #[.int .i64 0, .int .i64 0, .int .i64 0] 33)).frozen? ⟨w.heap.size, j, none⟩ = false := fun j => by simp
  have hrd := h.below b0 hh
  have hv := h.form
  clear h
  go_enter Try.func12, Try.ntmps12
  go_wp2_with fail
  generalize w.alloc _ = w0 at *
  have hh0 : hi ≤ w0.heap.size := by omega
  have c1 := l8Good_any v l w0 hrd hh0
  have c2 := fun (hg : Sl.good l = true) (W : World) (kb : Below w0.heap.size w0 W) => l8Best_any v l false W (hrd.below kb hh0) (Nat.le_trans hh0 kb.size)
  change ∀ (_ : Sl.good l = true) (W : World), Below w0.heap.size w0 W → Calls _ _ _ W (fun e w' => e = .returned (.int .i64 (Sl.bn l)) ∧ Below W.heap.size W w') at c2
  have c3 := fun (hg : Sl.good l = true) (W : World) (kb : Below w0.heap.size w0 W) (k : Nat) (hk : k < l.length) => specWith_any v l k ⟨0, 0, 0⟩ W (hrd.below kb hh0) (Nat.le_trans hh0 kb.size) hk (by rw [Sl.good_len hg]; decide)
  obtain ⟨A, n, c, rfl, H, hc, hm⟩ := hv
  have zw : w.heap.size < w0.heap.size := by omega
  cases hg : Sl.good l
  · have HF := Lib.hid (Sl.ev_no (l := l) (by simp [Sl.evOk, hg]))
    rw [hg] at c1
    clear hg c2 c3
    refine c1.mono ?_; rintro q_ w1 ⟨rfl, b1⟩
    obtain ⟨hc_, hf_⟩ := bcell b1
    replace k0 := (hc_ _ 0 (by omega)).trans k0
    replace k1 := (hc_ _ 1 (by omega)).trans k1
    replace k2 := (hc_ _ 2 (by omega)).trans k2
    replace kz := fun j => (hf_ w.heap.size j (by omega)).trans (kz j)
    have zz_w1 := b1.size
    have hb := b0.trans (b1.mono (by omega))
    clear hc_ hf_
    have zw1 : w.heap.size < w1.heap.size := by omega
    have zn : ¬ w.heap.size = w1.heap.size := by omega
    go_wp2_with fail
    generalize hw : World.setCell (World.setCell (World.setCell _ _ _) _ _) _ _ = wz
    have g0 : wz.cell? ⟨w.heap.size, 0, none⟩ = some (.int .i64 0) := by rw [← hw]; simp [go_sem, k0]
    have g1 : wz.cell? ⟨w.heap.size, 1, none⟩ = some (.int .i64 0) := by rw [← hw]; simp [go_sem, k1]
    have g2 : wz.cell? ⟨w.heap.size, 2, none⟩ = some (.int .i64 0) := by rw [← hw]; simp [go_sem, k2]
    obtain rfl : wz = setL w1 w.heap.size 0 [.int .i64 0, .int .i64 0, .int .i64 0] := hw.symm
    have hb2 := setL_below hb [.int .i64 0, .int .i64 0, .int .i64 0] w.heap.size 0 (Nat.le_refl _)
    have hz2 : w.heap.size < (setL w1 w.heap.size 0 [.int .i64 0, .int .i64 0, .int .i64 0]).heap.size := by rw [setL_size]; omega
    clear hw
    generalize setL w1 w.heap.size 0 [.int .i64 0, .int .i64 0, .int .i64 0] = wz at *
    rw [← World.cell?_alloc_lt wz (.cells #[] 33) _ hz2] at g0 g1 g2
    refine bodyPost_ret (by simp only [results, Try.results12]; simp [go_sem, g0, g1, g2]; rfl) rfl ?_
    exact ⟨_, by rw [HF.out.1, HF.out.2.2], by rw [HF.out.2.1]; exact Rd.empty (by decide), hb2.alloc hb2.size _⟩
  · have c2 := c2 hg
    have c3 := c3 hg
    rw [hg] at c1
    rcases Sl.bn_cases l with hf | ⟨k, s, hf, hk, hs, hst⟩
    · have HF := Lib.hid (Sl.ev_no (l := l) (by simp [Sl.evOk, hf]))
      rw [hf] at c2
      clear hg hf c3
      refine c1.mono ?_; rintro q_ w1 ⟨rfl, b1⟩
      obtain ⟨hc_, hf_⟩ := bcell b1
      replace k0 := (hc_ _ 0 (by omega)).trans k0
      replace k1 := (hc_ _ 1 (by omega)).trans k1
      replace k2 := (hc_ _ 2 (by omega)).trans k2
      replace kz := fun j => (hf_ w.heap.size j (by omega)).trans (kz j)
      have zz_w1 := b1.size
      have hb1 := b0.trans (b1.mono (by omega))
      clear hc_ hf_
      go_wp2_with fail
      refine (c2 _ b1).mono ?_; rintro q_ w2 ⟨rfl, b2⟩
      obtain ⟨hc_, hf_⟩ := bcell b2
      replace k0 := (hc_ _ 0 (by omega)).trans k0
      replace k1 := (hc_ _ 1 (by omega)).trans k1
      replace k2 := (hc_ _ 2 (by omega)).trans k2
      replace kz := fun j => (hf_ w.heap.size j (by omega)).trans (kz j)
      have zz_w2 := b2.size
      have hb := hb1.trans (b2.mono (by omega))
      clear hc_ hf_
      have zw1 : w.heap.size < w2.heap.size := by omega
      have zn : ¬ w.heap.size = w2.heap.size := by omega
      go_wp2_with fail
      generalize hw : World.setCell (World.setCell (World.setCell _ _ _) _ _) _ _ = wz
      have g0 : wz.cell? ⟨w.heap.size, 0, none⟩ = some (.int .i64 0) := by rw [← hw]; simp [go_sem, k0]
      have g1 : wz.cell? ⟨w.heap.size, 1, none⟩ = some (.int .i64 0) := by rw [← hw]; simp [go_sem, k1]
      have g2 : wz.cell? ⟨w.heap.size, 2, none⟩ = some (.int .i64 0) := by rw [← hw]; simp [go_sem, k2]
      obtain rfl : wz = setL w2 w.heap.size 0 [.int .i64 0, .int .i64 0, .int .i64 0] := hw.symm
      have hb2 := setL_below hb [.int .i64 0, .int .i64 0, .int .i64 0] w.heap.size 0 (Nat.le_refl _)
      have hz2 : w.heap.size < (setL w2 w.heap.size 0 [.int .i64 0, .int .i64 0, .int .i64 0]).heap.size := by rw [setL_size]; omega
      clear hw
      generalize setL w2 w.heap.size 0 [.int .i64 0, .int .i64 0, .int .i64 0] = wz at *
      rw [← World.cell?_alloc_lt wz (.cells #[] 33) _ hz2] at g0 g1 g2
      refine bodyPost_ret (by simp only [results, Try.results12]; simp [go_sem, g0, g1, g2]; rfl) rfl ?_
      exact ⟨_, by rw [HF.out.1, HF.out.2.2], by rw [HF.out.2.1]; exact Rd.empty (by decide), hb2.alloc hb2.size _⟩
    · clear hst
      have HF := Lib.hid (Sl.ev_yes hg hf hs)
      have HT := Lib.hid hs
      have hkn : k < n := by rw [H.out]; exact hk
      have hki : (k : Int) < (n : Int) := by omega
      have hj0 : decide ((k : Int) < 0) = false := by simp
      rw [hf] at c2
      have c3 := fun W kb => c3 W kb k hk
      unfold Sl.val at c3
      simp only at c3
      clear hg hf hs
      refine c1.mono ?_; rintro q_ w1 ⟨rfl, b1⟩
      obtain ⟨hc_, hf_⟩ := bcell b1
      replace k0 := (hc_ _ 0 (by omega)).trans k0
      replace k1 := (hc_ _ 1 (by omega)).trans k1
      replace k2 := (hc_ _ 2 (by omega)).trans k2
      replace kz := fun j => (hf_ w.heap.size j (by omega)).trans (kz j)
      have zz_w1 := b1.size
      have hb1 := b0.trans (b1.mono (by omega))
      clear hc_ hf_
      go_wp2_with fail
      refine (c2 _ b1).mono ?_; rintro q_ w2 ⟨rfl, b2⟩
      obtain ⟨hc_, hf_⟩ := bcell b2
      replace k0 := (hc_ _ 0 (by omega)).trans k0
      replace k1 := (hc_ _ 1 (by omega)).trans k1
      replace k2 := (hc_ _ 2 (by omega)).trans k2
      replace kz := fun j => (hf_ w.heap.size j (by omega)).trans (kz j)
      have zz_w2 := b2.size
      have hb2 := hb1.trans (b2.mono (by omega))
      clear hc_ hf_
      replace b2 := b1.trans (b2.mono b1.size)
      go_wp2_with fail
      refine (c2 _ b2).mono ?_; rintro q_ w3 ⟨rfl, b3⟩
      skip
      obtain ⟨hc_, hf_⟩ := bcell b3
      replace k0 := (hc_ _ 0 (by omega)).trans k0
      replace k1 := (hc_ _ 1 (by omega)).trans k1
      replace k2 := (hc_ _ 2 (by omega)).trans k2
      replace kz := fun j => (hf_ w.heap.size j (by omega)).trans (kz j)
      have zz_w3 := b3.size
      have hb3 := hb2.trans (b3.mono (by omega))
      clear hc_ hf_
      replace b3 := b2.trans (b3.mono b2.size)
      have z3 := b3.size
      obtain ⟨b, off, t, rfl, ht, _, hbl, f0, f1, f2⟩ := Sl.get hrd hkn b3 hh0
      obtain rfl := Option.some.inj (HT.out.symm.trans ht.out)
      have hbw3 : b < w3.heap.size := by omega
      have zw3 : w.heap.size < w3.heap.size := by omega
      have c5 := c3 w3.drew b3.drew
      clear c1 c2 c3 b1 b2 hb1 hb2
      go_wp2_with fail
      go_region_with (go_at_call 39; refine c5.mono ?_; rintro q_ w4 ⟨v', rfl, o1, b4⟩; (try simp only [World.size_drew] at b4 o1); (obtain ⟨hc4, hf4⟩ := bcell b4); (simp only [World.cell?_drew] at hc4); (have g0 := (hc4 _ 0 zw3).trans k0); (have g1 := (hc4 _ 1 zw3).trans k1); (have g2 := (hc4 _ 2 zw3).trans k2); (have gz := fun j => (hf4 w.heap.size j zw3).trans (kz j)); (have e0 := (hc4 _ _ hbw3).trans f0); (have e1 := (hc4 _ _ hbw3).trans f1); (have e2 := (hc4 _ _ hbw3).trans f2); (clear hc4 hf4))
      all_goals
        go_wp2_with fail
        generalize hw : World.setCell (World.setCell (World.setCell _ _ _) _ _) _ _ = wz
        have x0 : wz.cell? ⟨w.heap.size, 0, none⟩ = some (.int .i64 s.state) := by rw [← hw]; simp [go_sem, g0]
        have x1 : wz.cell? ⟨w.heap.size, 1, none⟩ = some (.int .i64 s.irq) := by rw [← hw]; simp [go_sem, g1]
        have x2 : wz.cell? ⟨w.heap.size, 2, none⟩ = some (.int .i64 s.prio) := by rw [← hw]; simp [go_sem, g2]
        obtain rfl : wz = setL w4 w.heap.size 0 [.int .i64 s.state, .int .i64 s.irq, .int .i64 s.prio] := hw.symm
        have hbz := setL_below (hb3.drew.trans (b4.mono (by omega))) [.int .i64 s.state, .int .i64 s.irq, .int .i64 s.prio] w.heap.size 0 (Nat.le_refl _)
        have o6 := o1.keep (w' := setL w4 w.heap.size 0 [.int .i64 s.state, .int .i64 s.irq, .int .i64 s.prio]) (fun q h1 _ _ => setL_other _ w4 w.heap.size 0 q (by omega))
        have hz4 : w4.heap.size ≤ (setL w4 w.heap.size 0 [.int .i64 s.state, .int .i64 s.irq, .int .i64 s.prio]).heap.size := by rw [setL_size]; exact Nat.le_refl _
        replace o6 := o6.mono (Nat.le_refl _) hz4
        clear hw
        generalize setL w4 w.heap.size 0 [.int .i64 s.state, .int .i64 s.irq, .int .i64 s.prio] = wz at *
        refine bodyPost_ret (by simp only [results, Try.results12]; simp [go_sem, x0, x1, x2]; rfl) rfl ?_
        exact ⟨v', by rw [HF.out.1, HF.out.2.2], by rw [HF.out.2.1]; exact o6.rd.mono (Nat.zero_le _) (Nat.le_refl _), hbz⟩
set_option maxHeartbeats 4000000 in
theorem implEvictSlot_any (v : Value) (l : List Sl) (w : World) {lo hi : Nat} (h : Rd Sl.cells 3 w lo hi v l) (hh : hi ≤ w.heap.size) :
    Calls Try.prog 11 #[v] w fun r w' => ∃ v', r = .returned (.tuple #[v', .agg #[.int .i64 (Sl.evV l).state, .int .i64 (Sl.evV l).irq, .int .i64 (Sl.evV l).prio], .bool (Sl.evOk l)]) ∧ Ow Sl.cells 3 33 w' w.heap.size w'.heap.size v' (Sl.evR l) ∧ (Sl.evR l).length ≤ 1048576 ∧ Below w.heap.size w w' := by
  have hlen := Sl.evR_len l
  have b0 := (Below.refl w.heap.size w).alloc (Nat.le_refl _) (.cells #[.int .i64 0, .int .i64 0, .int .i64 0] 33)
  have z0 : (w.alloc (.cells #[.int .i64 0, .int .i64 0, .int .i64 0] 33)).heap.size = w.heap.size + 1 := by simp
  have k0 : (w.alloc (.cells #[.int .i64 0, .int .i64 0, .int .i64 0] 33)).cell? ⟨w.heap.size, 0, none⟩ = some (.int .i64 0) := by simp
  have k1 : (w.alloc (.cells #[.int .i64 0, .int .i64 0, .int .i64 0] 33)).cell? ⟨w.heap.size, 1, none⟩ = some (.int .i64 0) := by simp
  have k2 : (w.alloc (.cells #[.int .i64 0, .int .i64 0, .int .i64 0] 33)).cell? ⟨w.heap.size, 2, none⟩ = some (.int .i64 0) := by simp
  have kz : ∀ j, (w.alloc (.cells #[.int .i64 0, .int .i64 0, .int .i64 0] 33)).frozen? ⟨w.heap.size, j, none⟩ = false := fun j => by simp
  have hrd := h.below b0 hh
  have hv := h.form
  clear h
  go_enter Try.func11, Try.ntmps11
  go_wp2_with fail
  generalize w.alloc _ = w0 at *
  have hh0 : hi ≤ w0.heap.size := by omega
  have c1 := implAreSlots_any v l w0 hrd hh0
  have c2 := fun (hg : Sl.good l = true) (W : World) (kb : Below w0.heap.size w0 W) => pendingSlot_any v l false W (hrd.below kb hh0) (Nat.le_trans hh0 kb.size) hg
  change ∀ (_ : Sl.good l = true) (W : World), Below w0.heap.size w0 W → Calls _ _ _ W (fun e w' => e = .returned (.int .i64 (Sl.bn l)) ∧ Below W.heap.size W w') at c2
  have c3 := fun (hg : Sl.good l = true) (W : World) (kb : Below w0.heap.size w0 W) (k : Nat) (hk : k < l.length) => implWith_any v l k ⟨0, 0, 0⟩ W (hrd.below kb hh0) (Nat.le_trans hh0 kb.size) hk (by rw [Sl.good_len hg]; decide)
  obtain ⟨A, n, c, rfl, H, hc, hm⟩ := hv
  have zw : w.heap.size < w0.heap.size := by omega
  cases hg : Sl.good l
  · have HF := Lib.hid (Sl.ev_no (l := l) (by simp [Sl.evOk, hg]))
    rw [hg] at c1
    clear hg c2 c3
    refine c1.mono ?_; rintro q_ w1 ⟨rfl, b1⟩
    obtain ⟨hc_, hf_⟩ := bcell b1
    replace k0 := (hc_ _ 0 (by omega)).trans k0
    replace k1 := (hc_ _ 1 (by omega)).trans k1
    replace k2 := (hc_ _ 2 (by omega)).trans k2
    replace kz := fun j => (hf_ w.heap.size j (by omega)).trans (kz j)
    have zz_w1 := b1.size
    have hb := b0.trans (b1.mono (by omega))
    clear hc_ hf_
    have zw1 : w.heap.size < w1.heap.size := by omega
    have zn : ¬ w.heap.size = w1.heap.size := by omega
    go_wp2_with fail
    generalize hw : World.setCell (World.setCell (World.setCell _ _ _) _ _) _ _ = wz
    have g0 : wz.cell? ⟨w.heap.size, 0, none⟩ = some (.int .i64 0) := by rw [← hw]; simp [go_sem, k0]
    have g1 : wz.cell? ⟨w.heap.size, 1, none⟩ = some (.int .i64 0) := by rw [← hw]; simp [go_sem, k1]
    have g2 : wz.cell? ⟨w.heap.size, 2, none⟩ = some (.int .i64 0) := by rw [← hw]; simp [go_sem, k2]
    obtain rfl : wz = setL w1 w.heap.size 0 [.int .i64 0, .int .i64 0, .int .i64 0] := hw.symm
    have hb2 := setL_below hb [.int .i64 0, .int .i64 0, .int .i64 0] w.heap.size 0 (Nat.le_refl _)
    have hz2 : w.heap.size < (setL w1 w.heap.size 0 [.int .i64 0, .int .i64 0, .int .i64 0]).heap.size := by rw [setL_size]; omega
    clear hw
    generalize setL w1 w.heap.size 0 [.int .i64 0, .int .i64 0, .int .i64 0] = wz at *
    refine bodyPost_ret (by simp only [results, Try.results11]; simp [go_sem, g0, g1, g2]; rfl) rfl ?_
    exact ⟨_, by rw [HF.out.1, HF.out.2.2], by rw [HF.out.2.1]; exact Ow.nil_, hlen, hb2⟩
  · have c2 := c2 hg
    have c3 := c3 hg
    rw [hg] at c1
    rcases Sl.bn_cases l with hf | ⟨k, s, hf, hk, hs, hst⟩
    · have HF := Lib.hid (Sl.ev_no (l := l) (by simp [Sl.evOk, hf]))
      rw [hf] at c2
      clear hg hf c3
      refine c1.mono ?_; rintro q_ w1 ⟨rfl, b1⟩
      obtain ⟨hc_, hf_⟩ := bcell b1
      replace k0 := (hc_ _ 0 (by omega)).trans k0
      replace k1 := (hc_ _ 1 (by omega)).trans k1
      replace k2 := (hc_ _ 2 (by omega)).trans k2
      replace kz := fun j => (hf_ w.heap.size j (by omega)).trans (kz j)
      have zz_w1 := b1.size
      have hb1 := b0.trans (b1.mono (by omega))
      clear hc_ hf_
      go_wp2_with fail
      refine (c2 _ b1).mono ?_; rintro q_ w2 ⟨rfl, b2⟩
      obtain ⟨hc_, hf_⟩ := bcell b2
      replace k0 := (hc_ _ 0 (by omega)).trans k0
      replace k1 := (hc_ _ 1 (by omega)).trans k1
      replace k2 := (hc_ _ 2 (by omega)).trans k2
      replace kz := fun j => (hf_ w.heap.size j (by omega)).trans (kz j)
      have zz_w2 := b2.size
      have hb := hb1.trans (b2.mono (by omega))
      clear hc_ hf_
      have zw1 : w.heap.size < w2.heap.size := by omega
      have zn : ¬ w.heap.size = w2.heap.size := by omega
      go_wp2_with fail
      generalize hw : World.setCell (World.setCell (World.setCell _ _ _) _ _) _ _ = wz
      have g0 : wz.cell? ⟨w.heap.size, 0, none⟩ = some (.int .i64 0) := by rw [← hw]; simp [go_sem, k0]
      have g1 : wz.cell? ⟨w.heap.size, 1, none⟩ = some (.int .i64 0) := by rw [← hw]; simp [go_sem, k1]
      have g2 : wz.cell? ⟨w.heap.size, 2, none⟩ = some (.int .i64 0) := by rw [← hw]; simp [go_sem, k2]
      obtain rfl : wz = setL w2 w.heap.size 0 [.int .i64 0, .int .i64 0, .int .i64 0] := hw.symm
      have hb2 := setL_below hb [.int .i64 0, .int .i64 0, .int .i64 0] w.heap.size 0 (Nat.le_refl _)
      have hz2 : w.heap.size < (setL w2 w.heap.size 0 [.int .i64 0, .int .i64 0, .int .i64 0]).heap.size := by rw [setL_size]; omega
      clear hw
      generalize setL w2 w.heap.size 0 [.int .i64 0, .int .i64 0, .int .i64 0] = wz at *
      refine bodyPost_ret (by simp only [results, Try.results11]; simp [go_sem, g0, g1, g2]; rfl) rfl ?_
      exact ⟨_, by rw [HF.out.1, HF.out.2.2], by rw [HF.out.2.1]; exact Ow.nil_, hlen, hb2⟩
    · clear hst
      have HF := Lib.hid (Sl.ev_yes hg hf hs)
      have HT := Lib.hid hs
      have hkn : k < n := by rw [H.out]; exact hk
      have hki : (k : Int) < (n : Int) := by omega
      have hj0 : decide ((k : Int) < 0) = false := by simp
      rw [hf] at c2
      have c3 := fun W kb => c3 W kb k hk
      unfold Sl.val at c3
      simp only at c3
      clear hg hf hs
      refine c1.mono ?_; rintro q_ w1 ⟨rfl, b1⟩
      obtain ⟨hc_, hf_⟩ := bcell b1
      replace k0 := (hc_ _ 0 (by omega)).trans k0
      replace k1 := (hc_ _ 1 (by omega)).trans k1
      replace k2 := (hc_ _ 2 (by omega)).trans k2
      replace kz := fun j => (hf_ w.heap.size j (by omega)).trans (kz j)
      have zz_w1 := b1.size
      have hb1 := b0.trans (b1.mono (by omega))
      clear hc_ hf_
      go_wp2_with fail
      refine (c2 _ b1).mono ?_; rintro q_ w2 ⟨rfl, b2⟩
      obtain ⟨hc_, hf_⟩ := bcell b2
      replace k0 := (hc_ _ 0 (by omega)).trans k0
      replace k1 := (hc_ _ 1 (by omega)).trans k1
      replace k2 := (hc_ _ 2 (by omega)).trans k2
      replace kz := fun j => (hf_ w.heap.size j (by omega)).trans (kz j)
      have zz_w2 := b2.size
      have hb2 := hb1.trans (b2.mono (by omega))
      clear hc_ hf_
      replace b2 := b1.trans (b2.mono b1.size)
      skip
      obtain ⟨w3, b3, hw3⟩ : ∃ w3, Below w2.heap.size w2 w3 ∧ w3 = w2 := ⟨w2, Below.refl _ _, rfl⟩
      subst hw3
      obtain ⟨hc_, hf_⟩ := bcell b3
      replace k0 := (hc_ _ 0 (by omega)).trans k0
      replace k1 := (hc_ _ 1 (by omega)).trans k1
      replace k2 := (hc_ _ 2 (by omega)).trans k2
      replace kz := fun j => (hf_ w.heap.size j (by omega)).trans (kz j)
      have zz_w3 := b3.size
      have hb3 := hb2.trans (b3.mono (by omega))
      clear hc_ hf_
      replace b3 := b2.trans (b3.mono b2.size)
      have z3 := b3.size
      obtain ⟨b, off, t, rfl, ht, _, hbl, f0, f1, f2⟩ := Sl.get hrd hkn b3 hh0
      obtain rfl := Option.some.inj (HT.out.symm.trans ht.out)
      have hbw3 : b < w3.heap.size := by omega
      have zw3 : w.heap.size < w3.heap.size := by omega
      have c5 := c3 w3.drew b3.drew
      clear c1 c2 c3 b1 b2 hb1 hb2
      go_wp2_with fail
      go_region_with (go_at_call 37; refine c5.mono ?_; rintro q_ w4 ⟨v', rfl, o1, b4⟩; (try simp only [World.size_drew] at b4 o1); (obtain ⟨hc4, hf4⟩ := bcell b4); (simp only [World.cell?_drew] at hc4); (have g0 := (hc4 _ 0 zw3).trans k0); (have g1 := (hc4 _ 1 zw3).trans k1); (have g2 := (hc4 _ 2 zw3).trans k2); (have gz := fun j => (hf4 w.heap.size j zw3).trans (kz j)); (have e0 := (hc4 _ _ hbw3).trans f0); (have e1 := (hc4 _ _ hbw3).trans f1); (have e2 := (hc4 _ _ hbw3).trans f2); (clear hc4 hf4))
      all_goals
        go_wp2_with fail
        generalize hw : World.setCell (World.setCell (World.setCell _ _ _) _ _) _ _ = wz
        have x0 : wz.cell? ⟨w.heap.size, 0, none⟩ = some (.int .i64 s.state) := by rw [← hw]; simp [go_sem, g0]
        have x1 : wz.cell? ⟨w.heap.size, 1, none⟩ = some (.int .i64 s.irq) := by rw [← hw]; simp [go_sem, g1]
        have x2 : wz.cell? ⟨w.heap.size, 2, none⟩ = some (.int .i64 s.prio) := by rw [← hw]; simp [go_sem, g2]
        obtain rfl : wz = setL w4 w.heap.size 0 [.int .i64 s.state, .int .i64 s.irq, .int .i64 s.prio] := hw.symm
        have hbz := setL_below (hb3.drew.trans (b4.mono (by omega))) [.int .i64 s.state, .int .i64 s.irq, .int .i64 s.prio] w.heap.size 0 (Nat.le_refl _)
        have o6 := o1.keep (w' := setL w4 w.heap.size 0 [.int .i64 s.state, .int .i64 s.irq, .int .i64 s.prio]) (fun q h1 _ _ => setL_other _ w4 w.heap.size 0 q (by omega))
        have hz4 : w4.heap.size ≤ (setL w4 w.heap.size 0 [.int .i64 s.state, .int .i64 s.irq, .int .i64 s.prio]).heap.size := by rw [setL_size]; exact Nat.le_refl _
        replace o6 := o6.mono (Nat.le_refl _) hz4
        clear hw
        generalize setL w4 w.heap.size 0 [.int .i64 s.state, .int .i64 s.irq, .int .i64 s.prio] = wz at *
        refine bodyPost_ret (by simp only [results, Try.results11]; simp [go_sem, x0, x1, x2]; rfl) rfl ?_
        exact ⟨v', by rw [HF.out.1, HF.out.2.2], by rw [HF.out.2.1]; exact o6.mono (by omega) (Nat.le_refl _), hlen, hbz⟩

end Go.Proofs.Ytaggjadgbmmjoaa
