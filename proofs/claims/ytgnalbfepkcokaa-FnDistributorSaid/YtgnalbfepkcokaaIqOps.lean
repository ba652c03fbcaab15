/- Changing one interrupt: beginning, ending, routing, making pending and enabling it, in the program and in the reference. No condition. -/
import Derived.Test.YtgnalbfepkcokaaIqWith
namespace Go.Proofs.Ytgnalbfepkcokaa
open Go.RowKit Go.ChangeShapes Go.WideShapes Go.Deep

def Iq.ended (t : Iq) : Iq := ⟨t.enabled, t.pending, false, t.prio, t.target⟩
def Iq.begun (t : Iq) : Iq := ⟨t.enabled, false, true, t.prio, t.target⟩
def Iq.routed (p q : Int) (t : Iq) : Iq := ⟨t.enabled, t.pending, t.active, p, q⟩
def Iq.setP (p : Bool) (t : Iq) : Iq := ⟨t.enabled, p, t.active, t.prio, t.target⟩
def Iq.setE (p : Bool) (t : Iq) : Iq := ⟨p, t.pending, t.active, t.prio, t.target⟩
def Iq.idle (t : Iq) : Bool := !t.active
def Iq.yes (_ : Iq) : Bool := true
def Iq.atI (l : List Iq) (i : Int) : Iq := l.getD i.toNat default
def Iq.doOk (l : List Iq) (i : Int) (g : Iq → Bool) (f : Iq → Iq) : Bool := Iq.asked l i && (g (Iq.atI l i) && (f (Iq.atI l i)).ok)
def Iq.doR (l : List Iq) (i : Int) (g : Iq → Bool) (f : Iq → Iq) : List Iq := if Iq.doOk l i g f then Iq.up l i f else []
theorem Iq.at_get {l : List Iq} {k : Nat} {t : Iq} (ht : l[k]? = some t) : Iq.atI l (k : Int) = t := by simp [Iq.atI, ht]
theorem Iq.doR_len (l : List Iq) (i : Int) (g : Iq → Bool) (f : Iq → Iq) : (Iq.doR l i g f).length ≤ 1048576 := by
  unfold Iq.doR
  split
  · rename_i h
    simp only [Iq.doOk, Iq.asked, Bool.and_eq_true] at h
    have := Iq.good_len h.1.1
    simp [Iq.up]; omega
  · simp
theorem Iq.do_no {l : List Iq} {i : Int} {g : Iq → Bool} {f : Iq → Iq} (h : Iq.doOk l i g f = false) : Iq.doOk l i g f = false ∧ Iq.doR l i g f = [] := ⟨h, by simp [Iq.doR, h]⟩
theorem Iq.do_yes {l : List Iq} {k : Nat} {t : Iq} {g : Iq → Bool} {f : Iq → Iq} (ht : l[k]? = some t) (h : Iq.doOk l k g f = true) : Iq.doOk l k g f = true ∧ Iq.doR l k g f = l.set k (f t) := ⟨h, by simp [Iq.doR, h, Iq.up_at ht]⟩
theorem Iq.up_do {l : List Iq} {i : Int} {g : Iq → Bool} (f : Iq → Iq) (hg : g (Iq.atI l i) = true) : Iq.upOk l i f = Iq.doOk l i g f ∧ Iq.upR l i f = Iq.doR l i g f := by
  have h1 : Iq.upOk l i f = Iq.doOk l i g f := by
    cases h : Iq.asked l i
    · simp [Iq.upOk, Iq.doOk, h]
    · obtain ⟨k, t, rfl, hk, hk2, ht, h2⟩ := Iq.asked_get h
      rw [Iq.at_get ht] at hg
      simp [Iq.upOk, Iq.doOk, h, hg, Iq.up_at ht, Iq.good_set _ h2 hk2, Iq.at_get ht]
  exact ⟨h1, by rw [Iq.upR, Iq.doR, h1]⟩
theorem Iq.ok_ended {t : Iq} (h : t.ok = true) : t.ended.ok = true := h
theorem Iq.ok_begun {t : Iq} (h : t.ok = true) : t.begun.ok = true := h
theorem Iq.ok_setP {p : Bool} {t : Iq} (h : t.ok = true) : (t.setP p).ok = true := h
theorem Iq.ok_setE {p : Bool} {t : Iq} (h : t.ok = true) : (t.setE p).ok = true := h

theorem endClo_any (W : World) (b o : Nat) (t : Iq) (f2 : W.cell? ⟨b, o + 2, none⟩ = some (.bool t.active)) (hfz : ∀ j, W.frozen? ⟨b, j, none⟩ = false) :
    Calls Try.prog 106 #[.pointer (some ⟨b, o, none⟩)] W fun r w' => r = .returned (.tuple #[]) ∧ Upd 62 5 W w' b o t.cells (Iq.ended t).cells := by
  go_enter Try.func106, Try.ntmps106
  go_wp2
  go_end0
  exact ⟨rfl, Upd.of_setL 2 (ys := [.bool false]) rfl rfl (by decide)⟩
theorem beginClo_any (W : World) (b o : Nat) (t : Iq) (_f0 : W.cell? ⟨b, o, none⟩ = some (.bool t.enabled)) (f1 : W.cell? ⟨b, o + 1, none⟩ = some (.bool t.pending)) (f2 : W.cell? ⟨b, o + 2, none⟩ = some (.bool t.active)) (hfz : ∀ j, W.frozen? ⟨b, j, none⟩ = false) :
    Calls Try.prog 102 #[.pointer (some ⟨b, o, none⟩)] W fun r w' => r = .returned (.tuple #[]) ∧ Upd 62 5 W w' b o t.cells (Iq.begun t).cells := by
  go_enter Try.func102, Try.ntmps102
  go_wp2
  go_end0
  have h1 : Upd 62 5 W (setL W b (o + 2) [.bool true]) b o t.cells [.bool t.enabled, .bool t.pending, .bool true, .int .i64 t.prio, .int .i64 t.target] := Upd.of_setL 2 (ys := [.bool true]) rfl rfl (by decide)
  have h2 : Upd 62 5 (setL W b (o + 2) [.bool true]) (setL (setL W b (o + 2) [.bool true]) b (o + 1) [.bool false]) b o [.bool t.enabled, .bool t.pending, .bool true, .int .i64 t.prio, .int .i64 t.target] (Iq.begun t).cells := Upd.of_setL 1 (ys := [.bool false]) rfl rfl (by decide)
  exact ⟨rfl, h1.tr h2⟩
theorem routeClo_any (p q : Int) (w : World) {B1 B2 : Nat} (h1 : w.cell? ⟨B1, 0, none⟩ = some (.int .i64 p)) (h2 : w.cell? ⟨B2, 0, none⟩ = some (.int .i64 q)) (hB1 : B1 < w.heap.size) (hB2 : B2 < w.heap.size)
    (W : World) (b o : Nat) (t : Iq) (hb : Below w.heap.size w W) (hbw : w.heap.size ≤ b) (_f0 : W.cell? ⟨b, o, none⟩ = some (.bool t.enabled)) (f3 : W.cell? ⟨b, o + 3, none⟩ = some (.int .i64 t.prio)) (f4 : W.cell? ⟨b, o + 4, none⟩ = some (.int .i64 t.target)) (hfz : ∀ j, W.frozen? ⟨b, j, none⟩ = false) :
    Calls Try.prog 111 (#[.pointer (some ⟨b, o, none⟩)] ++ #[.pointer (some ⟨B1, 0, none⟩), .pointer (some ⟨B2, 0, none⟩)]) W fun r w' => r = .returned (.tuple #[]) ∧ Upd 62 5 W w' b o t.cells (Iq.routed p q t).cells := by
  rw [← hb.cell (p := ⟨B1, 0, none⟩) hB1] at h1
  rw [← hb.cell (p := ⟨B2, 0, none⟩) hB2] at h2
  have hn1 : B1 < b := by omega
  have hn2 : B2 < b := by omega
  clear hb hbw hB1 hB2
  go_enter Try.func111, Try.ntmps111
  go_region
  go_end0
  exact ⟨rfl, Upd.drew (Upd.of_setL 3 (ys := [.int .i64 p, .int .i64 q]) rfl rfl (by simp))⟩
theorem setPClo_any (p : Bool) (w : World) {B1 : Nat} (h1 : w.cell? ⟨B1, 0, none⟩ = some (.bool p)) (hB1 : B1 < w.heap.size)
    (W : World) (b o : Nat) (t : Iq) (hb : Below w.heap.size w W) (hbw : w.heap.size ≤ b) (_f0 : W.cell? ⟨b, o, none⟩ = some (.bool t.enabled)) (f1 : W.cell? ⟨b, o + 1, none⟩ = some (.bool t.pending)) (hfz : ∀ j, W.frozen? ⟨b, j, none⟩ = false) :
    Calls Try.prog 107 (#[.pointer (some ⟨b, o, none⟩)] ++ #[.pointer (some ⟨B1, 0, none⟩)]) W fun r w' => r = .returned (.tuple #[]) ∧ Upd 62 5 W w' b o t.cells (Iq.setP p t).cells := by
  rw [← hb.cell (p := ⟨B1, 0, none⟩) hB1] at h1
  have hn1 : B1 < b := by omega
  clear hb hbw hB1
  go_enter Try.func107, Try.ntmps107
  go_wp2
  go_end0
  exact ⟨rfl, Upd.of_setL 1 (ys := [.bool p]) rfl rfl (by simp)⟩
theorem setEClo_any (p : Bool) (w : World) {B1 : Nat} (h1 : w.cell? ⟨B1, 0, none⟩ = some (.bool p)) (hB1 : B1 < w.heap.size)
    (W : World) (b o : Nat) (t : Iq) (hb : Below w.heap.size w W) (hbw : w.heap.size ≤ b) (f0 : W.cell? ⟨b, o, none⟩ = some (.bool t.enabled)) (_f1 : W.cell? ⟨b, o + 1, none⟩ = some (.bool t.pending)) (hfz : ∀ j, W.frozen? ⟨b, j, none⟩ = false) :
    Calls Try.prog 108 (#[.pointer (some ⟨b, o, none⟩)] ++ #[.pointer (some ⟨B1, 0, none⟩)]) W fun r w' => r = .returned (.tuple #[]) ∧ Upd 62 5 W w' b o t.cells (Iq.setE p t).cells := by
  rw [← hb.cell (p := ⟨B1, 0, none⟩) hB1] at h1
  have hn1 : B1 < b := by omega
  clear hb hbw hB1
  go_enter Try.func108, Try.ntmps108
  go_wp2
  go_end0
  exact ⟨rfl, Upd.of_setL 0 (ys := [.bool p]) rfl rfl (by simp)⟩

set_option maxHeartbeats 1000000 in
theorem implEndIrq_any (v : Value) (l : List Iq) (i : Int) (w : World) {lo hi : Nat} (h : Rd Iq.cells 5 w lo hi v l) (hh : hi ≤ w.heap.size) :
    Calls Try.prog 40 #[v, .int .i64 i] w fun r w' => ∃ v', r = .returned (.tuple #[v', .bool (Iq.doOk l i Iq.active Iq.ended)]) ∧ Ow Iq.cells 5 62 w' w.heap.size w'.heap.size v' (Iq.doR l i Iq.active Iq.ended) ∧ (Iq.doR l i Iq.active Iq.ended).length ≤ 1048576 ∧ Below w.heap.size w w' := by
  have hlen := Iq.doR_len l i Iq.active Iq.ended
  have b0 : Below w.heap.size w w := Below.refl w.heap.size w
  have z0 : w.heap.size = w.heap.size + 0 := rfl
  have hr0 : Rd Iq.cells 5 w lo hi v l := h.below b0 hh
  have c1 := fun (w1 : World) (hr : Rd Iq.cells 5 w1 lo hi v l) (hh : hi ≤ w1.heap.size) (hz : w.heap.size + 0 ≤ w1.heap.size) =>
    withIrq_any 106 #[] Iq.ended v l i w1 hr hh (enters Try.func106 (by kernel_rfl) rfl) (fun W b o t _ _ _ _ f2 _ _ hfz => endClo_any W b o t f2 hfz)
  have _ := hr0
  have c2 := fun W => isIrq_any i W
  obtain ⟨A, n, c, rfl, H, hc, hm⟩ := h.form
  cases h1 : inB i 0 7
  · have HF := Lib.hid (Iq.do_no (l := l) (i := i) (g := Iq.active) (f := Iq.ended) (by simp [Iq.doOk, Iq.asked, h1]))
    rw [h1] at c2
    clear h1
    go_enter Try.func40, Try.ntmps40
    go_wp2_with fail
    refine (c2 _).mono ?_; rintro q w' ⟨rfl, rfl⟩
    go_wp2_with fail
    go_ret2
    exact ⟨_, by rw [HF.out.1]; rfl, by rw [HF.out.2]; exact Ow.nil_, hlen, b0⟩
  · by_cases h8 : n = 8
    · subst h8
      have hik := inB_true h1
      obtain ⟨k, rfl⟩ := Int.eq_ofNat_of_zero_le hik.1
      have hk : k < 8 := by omega
      obtain ⟨b, off, t, rfl, ht, _, hbl, f0, f1, f2, f3, f4⟩ := Iq.get hr0 hk (Below.refl w.heap.size w) (by omega)
      have hat := Iq.at_get ht.out
      rw [h1] at c2
      cases hq : Iq.active t
      · have HF := Lib.hid (Iq.do_no (l := l) (i := k) (g := Iq.active) (f := Iq.ended) (by simp [Iq.doOk, hat, hq]))
        rw [hq] at f2
        clear hq hat h1 hik c1
        go_enter Try.func40, Try.ntmps40
        go_wp2_with fail
        refine (c2 _).mono ?_; rintro q w' ⟨rfl, rfl⟩
        go_wp2_with fail
        go_ret2
        exact ⟨_, by rw [HF.out.1]; rfl, by rw [HF.out.2]; exact Ow.nil_, hlen, b0⟩
      · have HU := Lib.hid (Iq.up_do (l := l) (i := k) (g := Iq.active) Iq.ended (by rw [hat]; exact hq))
        rw [hq] at f2
        clear hq hat h1 hik
        go_enter Try.func40, Try.ntmps40
        go_wp2_with fail
        refine (c2 _).mono ?_; rintro q w' ⟨rfl, rfl⟩
        go_wp2_with fail
        refine (c1 _ hr0 (by omega) (by omega)).mono ?_
        rintro q w2 ⟨v', rfl, o1, b2⟩
        go_wp2_with fail
        go_ret2
        exact ⟨v', by rw [HU.out.1]; rfl, by rw [← HU.out.2]; exact o1.mono (by omega) (Nat.le_refl _), hlen, b0.trans (b2.mono (by omega))⟩
    · have HF := Lib.hid (Iq.do_no (l := l) (i := i) (g := Iq.active) (f := Iq.ended) (by
        have : Iq.good l = false := by
          have hn := H.out
          simp only [Iq.good, Bool.and_eq_false_iff, decide_eq_false_iff_not]; left; omega
        simp [Iq.doOk, Iq.asked, this]))
      rw [h1] at c2
      have h8' : ¬ (n : Int) = 8 := by omega
      clear h1 c1
      go_enter Try.func40, Try.ntmps40
      go_wp2_with fail
      refine (c2 _).mono ?_; rintro q w' ⟨rfl, rfl⟩
      go_wp2_with fail
      go_ret2
      exact ⟨_, by rw [HF.out.1]; rfl, by rw [HF.out.2]; exact Ow.nil_, hlen, b0⟩
set_option maxHeartbeats 1000000 in
theorem specEndIrq_any (v : Value) (l : List Iq) (i : Int) (w : World) {lo hi : Nat} (h : Rd Iq.cells 5 w lo hi v l) (hh : hi ≤ w.heap.size) :
    Calls Try.prog 43 #[v, .int .i64 i] w fun r w' => ∃ v', r = .returned (.tuple #[v', .bool (Iq.doOk l i Iq.active Iq.ended)]) ∧ Rd Iq.cells 5 w' 0 w'.heap.size v' (Iq.doR l i Iq.active Iq.ended) ∧ Below w.heap.size w w' := by
  have c1 := l6Asked_any v l i w h hh
  have hrd := h
  obtain ⟨A, n, c, rfl, H, hc, hm⟩ := h.form
  cases hb : Iq.asked l i
  · have HF := Lib.hid (Iq.do_no (l := l) (i := i) (g := Iq.active) (f := Iq.ended) (by simp [Iq.doOk, hb]))
    rw [hb] at c1
    clear hb
    go_enter Try.func43, Try.ntmps43
    go_wp2_with fail
    refine c1.mono ?_; rintro q_ w1 ⟨rfl, b1⟩
    go_wp2_with fail
    go_ret2
    exact ⟨_, by rw [HF.out.1]; rfl, by rw [HF.out.2]; exact Rd.empty (by decide), b1.alloc b1.size _⟩
  · obtain ⟨k, t, rfl, hk7, hk, ht, hg⟩ := Iq.asked_get hb
    have hl8 := Iq.good_len hg
    have hok := Iq.good_ok hg ht
    have hat := Iq.at_get ht
    have hkn : k < n := by rw [H.out]; exact hk
    have c4 := fun (W : World) (kb : Below w.heap.size w W) => l6With_any _ l k (Iq.ended t) W (hrd.below kb hh) (Nat.le_trans hh kb.size) hk (by omega)
    have HT := Lib.hid ht
    have hokf : (Iq.ended t).ok = true := Iq.ok_ended hok
    cases hq : Iq.active t
    · have HF := Lib.hid (Iq.do_no (l := l) (i := k) (g := Iq.active) (f := Iq.ended) (by simp [Iq.doOk, hat, hq]))
      rw [hb] at c1
      have hq2 : t.active = false := hq
      clear c4 hq hat hok hokf hb hg ht hl8
      go_enter Try.func43, Try.ntmps43
      go_wp2_with fail
      refine c1.mono ?_; rintro q_ w1 ⟨rfl, b1⟩
      obtain ⟨b, off, t', rfl, ht', _, hbl, f0, f1, f2, f3, f4⟩ := Iq.get hrd hkn b1 hh
      obtain rfl := Option.some.inj (HT.out.symm.trans ht'.out)
      have hbw1 : b < w1.heap.size := by have := b1.size; omega
      rw [hq2] at f2
      clear hq2
      go_wp2_with fail
      go_ret2
      exact ⟨_, by rw [HF.out.1]; rfl, by rw [HF.out.2]; exact Rd.empty (by decide), b1.alloc b1.size _⟩
    · skip
      have HF := Lib.hid (Iq.do_yes (g := Iq.active) (f := Iq.ended) HT.out (by simp [Iq.doOk, hb, hat, hokf, hq]))
      rw [hb] at c1
      have hq2 : t.active = true := hq
      unfold Iq.ended Iq.val at c4
      clear hq hat hok hokf hb hg ht hl8
      go_enter Try.func43, Try.ntmps43
      go_wp2_with fail
      refine c1.mono ?_; rintro q_ w1 ⟨rfl, b1⟩
      obtain ⟨b, off, t', rfl, ht', _, hbl, f0, f1, f2, f3, f4⟩ := Iq.get hrd hkn b1 hh
      obtain rfl := Option.some.inj (HT.out.symm.trans ht'.out)
      have hbw1 : b < w1.heap.size := by have := b1.size; omega
      rw [hq2] at f2
      clear hq2
      go_wp2_with fail
      refine (c4 _ ?bel).mono ?_
      case bel => first | exact (b1.alloc b1.size _) | exact setL_below (b1.alloc b1.size _) [_] _ _ b1.size | exact setL_below (setL_below (b1.alloc b1.size _) [_] _ _ b1.size) [_] _ _ b1.size
      rintro q_ w3 ⟨v', rfl, o1, b3⟩
      have z3 := b1.size
      go_wp2_with fail
      go_ret2
      refine ⟨v', by rw [HF.out.1]; rfl, by rw [HF.out.2]; exact o1.rd.mono (Nat.zero_le _) (Nat.le_refl _), ?_⟩
      first | exact (b1.alloc b1.size _).trans (b3.mono (by simp; omega)) | exact (setL_below (b1.alloc b1.size _) [_] _ _ b1.size).trans (b3.mono (by simp [World.setCell]; omega)) | exact (setL_below (setL_below (b1.alloc b1.size _) [_] _ _ b1.size) [_] _ _ b1.size).trans (b3.mono (by simp [World.setCell]; omega))
set_option maxHeartbeats 1000000 in
theorem implBeginIrq_any (v : Value) (l : List Iq) (i : Int) (w : World) {lo hi : Nat} (h : Rd Iq.cells 5 w lo hi v l) (hh : hi ≤ w.heap.size) :
    Calls Try.prog 37 #[v, .int .i64 i] w fun r w' => ∃ v', r = .returned (.tuple #[v', .bool (Iq.doOk l i Iq.rdy Iq.begun)]) ∧ Ow Iq.cells 5 62 w' w.heap.size w'.heap.size v' (Iq.doR l i Iq.rdy Iq.begun) ∧ (Iq.doR l i Iq.rdy Iq.begun).length ≤ 1048576 ∧ Below w.heap.size w w' := by
  have hlen := Iq.doR_len l i Iq.rdy Iq.begun
  have b0 : Below w.heap.size w w := Below.refl w.heap.size w
  have z0 : w.heap.size = w.heap.size + 0 := rfl
  have hr0 : Rd Iq.cells 5 w lo hi v l := h.below b0 hh
  have c1 := fun (w1 : World) (hr : Rd Iq.cells 5 w1 lo hi v l) (hh : hi ≤ w1.heap.size) (hz : w.heap.size + 0 ≤ w1.heap.size) =>
    withIrq_any 102 #[] Iq.begun v l i w1 hr hh (enters Try.func102 (by kernel_rfl) rfl) (fun W b o t _ _ f0 f1 f2 _ _ hfz => beginClo_any W b o t f0 f1 f2 hfz)
  have _ := hr0
  have c2 := fun W => isIrq_any i W
  obtain ⟨A, n, c, rfl, H, hc, hm⟩ := h.form
  cases h1 : inB i 0 7
  · have HF := Lib.hid (Iq.do_no (l := l) (i := i) (g := Iq.rdy) (f := Iq.begun) (by simp [Iq.doOk, Iq.asked, h1]))
    rw [h1] at c2
    clear h1
    go_enter Try.func37, Try.ntmps37
    go_wp2_with fail
    refine (c2 _).mono ?_; rintro q w' ⟨rfl, rfl⟩
    go_wp2_with fail
    go_ret2
    exact ⟨_, by rw [HF.out.1]; rfl, by rw [HF.out.2]; exact Ow.nil_, hlen, b0⟩
  · by_cases h8 : n = 8
    · subst h8
      have hik := inB_true h1
      obtain ⟨k, rfl⟩ := Int.eq_ofNat_of_zero_le hik.1
      have hk : k < 8 := by omega
      obtain ⟨b, off, t, rfl, ht, _, hbl, f0, f1, f2, f3, f4⟩ := Iq.get hr0 hk (Below.refl w.heap.size w) (by omega)
      have hat := Iq.at_get ht.out
      rw [h1] at c2
      have c3 := fun W => isReady_any t W
      cases hq : Iq.rdy t
      · have HF := Lib.hid (Iq.do_no (l := l) (i := k) (g := Iq.rdy) (f := Iq.begun) (by simp [Iq.doOk, hat, hq]))
        rw [hq] at c3
        unfold Iq.val at c3
        clear hq hat h1 hik c1
        go_enter Try.func37, Try.ntmps37
        go_wp2_with fail
        refine (c2 _).mono ?_; rintro q w' ⟨rfl, rfl⟩
        go_wp2_with fail
        refine (c3 _).mono ?_; rintro q w1 ⟨rfl, b1⟩
        go_wp2_with fail
        go_ret2
        exact ⟨_, by rw [HF.out.1]; rfl, by rw [HF.out.2]; exact Ow.nil_, hlen, b1⟩
      · have HU := Lib.hid (Iq.up_do (l := l) (i := k) (g := Iq.rdy) Iq.begun (by rw [hat]; exact hq))
        rw [hq] at c3
        unfold Iq.val at c3
        clear hq hat h1 hik
        go_enter Try.func37, Try.ntmps37
        go_wp2_with fail
        refine (c2 _).mono ?_; rintro q w' ⟨rfl, rfl⟩
        go_wp2_with fail
        refine (c3 _).mono ?_; rintro q w1 ⟨rfl, b1⟩
        go_wp2_with fail
        refine (c1 _ (h.below b1 hh) (Nat.le_trans hh b1.size) b1.size).mono ?_
        rintro q w2 ⟨v', rfl, o1, b2⟩
        go_wp2_with fail
        go_ret2
        exact ⟨v', by rw [HU.out.1]; rfl, by rw [← HU.out.2]; exact o1.mono b1.size (Nat.le_refl _), hlen, b1.trans (b2.mono b1.size)⟩
    · have HF := Lib.hid (Iq.do_no (l := l) (i := i) (g := Iq.rdy) (f := Iq.begun) (by
        have : Iq.good l = false := by
          have hn := H.out
          simp only [Iq.good, Bool.and_eq_false_iff, decide_eq_false_iff_not]; left; omega
        simp [Iq.doOk, Iq.asked, this]))
      rw [h1] at c2
      have h8' : ¬ (n : Int) = 8 := by omega
      clear h1 c1
      go_enter Try.func37, Try.ntmps37
      go_wp2_with fail
      refine (c2 _).mono ?_; rintro q w' ⟨rfl, rfl⟩
      go_wp2_with fail
      go_ret2
      exact ⟨_, by rw [HF.out.1]; rfl, by rw [HF.out.2]; exact Ow.nil_, hlen, b0⟩
set_option maxHeartbeats 1000000 in
theorem specBeginIrq_any (v : Value) (l : List Iq) (i : Int) (w : World) {lo hi : Nat} (h : Rd Iq.cells 5 w lo hi v l) (hh : hi ≤ w.heap.size) :
    Calls Try.prog 38 #[v, .int .i64 i] w fun r w' => ∃ v', r = .returned (.tuple #[v', .bool (Iq.doOk l i Iq.rdy Iq.begun)]) ∧ Rd Iq.cells 5 w' 0 w'.heap.size v' (Iq.doR l i Iq.rdy Iq.begun) ∧ Below w.heap.size w w' := by
  have c1 := l6Asked_any v l i w h hh
  have hrd := h
  obtain ⟨A, n, c, rfl, H, hc, hm⟩ := h.form
  cases hb : Iq.asked l i
  · have HF := Lib.hid (Iq.do_no (l := l) (i := i) (g := Iq.rdy) (f := Iq.begun) (by simp [Iq.doOk, hb]))
    rw [hb] at c1
    clear hb
    go_enter Try.func38, Try.ntmps38
    go_wp2_with fail
    refine c1.mono ?_; rintro q_ w1 ⟨rfl, b1⟩
    go_wp2_with fail
    go_ret2
    exact ⟨_, by rw [HF.out.1]; rfl, by rw [HF.out.2]; exact Rd.empty (by decide), b1.alloc b1.size _⟩
  · obtain ⟨k, t, rfl, hk7, hk, ht, hg⟩ := Iq.asked_get hb
    have hl8 := Iq.good_len hg
    have hok := Iq.good_ok hg ht
    have hat := Iq.at_get ht
    have hkn : k < n := by rw [H.out]; exact hk
    have c4 := fun (W : World) (kb : Below w.heap.size w W) => l6With_any _ l k (Iq.begun t) W (hrd.below kb hh) (Nat.le_trans hh kb.size) hk (by omega)
    have c5 := fun W => l6Ready_any t W
    have HT := Lib.hid ht
    have hokf : (Iq.begun t).ok = true := Iq.ok_begun hok
    cases hq : Iq.rdy t
    · have HF := Lib.hid (Iq.do_no (l := l) (i := k) (g := Iq.rdy) (f := Iq.begun) (by simp [Iq.doOk, hat, hq]))
      rw [hb] at c1
      rw [hq] at c5
      unfold Iq.val at c5
      clear c4 hq hat hok hokf hb hg ht hl8
      go_enter Try.func38, Try.ntmps38
      go_wp2_with fail
      refine c1.mono ?_; rintro q_ w1 ⟨rfl, b1⟩
      obtain ⟨b, off, t', rfl, ht', _, hbl, f0, f1, f2, f3, f4⟩ := Iq.get hrd hkn b1 hh
      obtain rfl := Option.some.inj (HT.out.symm.trans ht'.out)
      have hbw1 : b < w1.heap.size := by have := b1.size; omega
      go_wp2_with fail
      refine (c5 _).mono ?_; rintro q_ w2 ⟨rfl, b2⟩
      replace b1 := b1.trans (b2.mono b1.size)
      go_wp2_with fail
      go_ret2
      exact ⟨_, by rw [HF.out.1]; rfl, by rw [HF.out.2]; exact Rd.empty (by decide), b1.alloc b1.size _⟩
    · skip
      have HF := Lib.hid (Iq.do_yes (g := Iq.rdy) (f := Iq.begun) HT.out (by simp [Iq.doOk, hb, hat, hokf, hq]))
      rw [hb] at c1
      rw [hq] at c5
      unfold Iq.val at c5
      unfold Iq.begun Iq.val at c4
      clear hq hat hok hokf hb hg ht hl8
      go_enter Try.func38, Try.ntmps38
      go_wp2_with fail
      refine c1.mono ?_; rintro q_ w1 ⟨rfl, b1⟩
      obtain ⟨b, off, t', rfl, ht', _, hbl, f0, f1, f2, f3, f4⟩ := Iq.get hrd hkn b1 hh
      obtain rfl := Option.some.inj (HT.out.symm.trans ht'.out)
      have hbw1 : b < w1.heap.size := by have := b1.size; omega
      go_wp2_with fail
      refine (c5 _).mono ?_; rintro q_ w2 ⟨rfl, b2⟩
      replace f0 := (b2.cell (p := ⟨b, off + k * 5, none⟩) hbw1).trans f0
      replace f1 := (b2.cell (p := ⟨b, off + k * 5 + 1, none⟩) hbw1).trans f1
      replace f2 := (b2.cell (p := ⟨b, off + k * 5 + 2, none⟩) hbw1).trans f2
      replace f3 := (b2.cell (p := ⟨b, off + k * 5 + 3, none⟩) hbw1).trans f3
      replace f4 := (b2.cell (p := ⟨b, off + k * 5 + 4, none⟩) hbw1).trans f4
      replace hbw1 := Nat.lt_of_lt_of_le hbw1 b2.size
      replace b1 := b1.trans (b2.mono b1.size)
      clear b2
      go_wp2_with fail
      refine (c4 _ ?bel).mono ?_
      case bel => first | exact (b1.alloc b1.size _) | exact setL_below (b1.alloc b1.size _) [_] _ _ b1.size | exact setL_below (setL_below (b1.alloc b1.size _) [_] _ _ b1.size) [_] _ _ b1.size
      rintro q_ w3 ⟨v', rfl, o1, b3⟩
      have z3 := b1.size
      go_wp2_with fail
      go_ret2
      refine ⟨v', by rw [HF.out.1]; rfl, by rw [HF.out.2]; exact o1.rd.mono (Nat.zero_le _) (Nat.le_refl _), ?_⟩
      first | exact (b1.alloc b1.size _).trans (b3.mono (by simp; omega)) | exact (setL_below (b1.alloc b1.size _) [_] _ _ b1.size).trans (b3.mono (by simp [World.setCell]; omega)) | exact (setL_below (setL_below (b1.alloc b1.size _) [_] _ _ b1.size) [_] _ _ b1.size).trans (b3.mono (by simp [World.setCell]; omega))
set_option maxHeartbeats 1000000 in
theorem implRouteIrq_any (v : Value) (l : List Iq) (i : Int) (p : Int) (q : Int) (w : World) {lo hi : Nat} (h : Rd Iq.cells 5 w lo hi v l) (hh : hi ≤ w.heap.size) :
    Calls Try.prog 50 #[v, .int .i64 i, .int .i64 p, .int .i64 q] w fun r w' => ∃ v', r = .returned (.tuple #[v', .bool (Iq.doOk l i Iq.idle (Iq.routed p q))]) ∧ Ow Iq.cells 5 62 w' w.heap.size w'.heap.size v' (Iq.doR l i Iq.idle (Iq.routed p q)) ∧ (Iq.doR l i Iq.idle (Iq.routed p q)).length ≤ 1048576 ∧ Below w.heap.size w w' := by
  have hlen := Iq.doR_len l i Iq.idle (Iq.routed p q)
  have b0 : Below w.heap.size w ((w.alloc (.cells #[.int .i64 p] 3)).alloc (.cells #[.int .i64 q] 3)) := ((Below.refl w.heap.size w).alloc (Nat.le_refl _) (.cells #[.int .i64 p] 3)).alloc (by simp) (.cells #[.int .i64 q] 3)
  have z0 : ((w.alloc (.cells #[.int .i64 p] 3)).alloc (.cells #[.int .i64 q] 3)).heap.size = w.heap.size + 2 := by simp
  have k0 : ((w.alloc (.cells #[.int .i64 p] 3)).alloc (.cells #[.int .i64 q] 3)).cell? ⟨w.heap.size + 0, 0, none⟩ = some (.int .i64 p) := by simp
  have k1 : ((w.alloc (.cells #[.int .i64 p] 3)).alloc (.cells #[.int .i64 q] 3)).cell? ⟨w.heap.size + 1, 0, none⟩ = some (.int .i64 q) := by simp
  have hr0 : Rd Iq.cells 5 ((w.alloc (.cells #[.int .i64 p] 3)).alloc (.cells #[.int .i64 q] 3)) lo hi v l := h.below b0 hh
  have c1 := fun (w1 : World) (hr : Rd Iq.cells 5 w1 lo hi v l) (hh : hi ≤ w1.heap.size) (hz : w.heap.size + 2 ≤ w1.heap.size) (h1 : w1.cell? ⟨w.heap.size, 0, none⟩ = some (.int .i64 p)) (h2 : w1.cell? ⟨w.heap.size + 1, 0, none⟩ = some (.int .i64 q)) =>
    withIrq_any 111 #[.pointer (some ⟨w.heap.size, 0, none⟩), .pointer (some ⟨w.heap.size + 1, 0, none⟩)] (Iq.routed p q) v l i w1 hr hh (enters Try.func111 (by kernel_rfl) rfl) (fun W b o t hb hbw f0 _ _ f3 f4 hfz => routeClo_any p q w1 h1 h2 (by omega) (by omega) W b o t hb hbw f0 f3 f4 hfz)
  have c2 := fun W => isIrq_any i W
  obtain ⟨A, n, c, rfl, H, hc, hm⟩ := h.form
  cases h1 : inB i 0 7
  · have HF := Lib.hid (Iq.do_no (l := l) (i := i) (g := Iq.idle) (f := (Iq.routed p q)) (by simp [Iq.doOk, Iq.asked, h1]))
    rw [h1] at c2
    clear h1
    go_enter Try.func50, Try.ntmps50
    go_wp2_with fail
    refine (c2 _).mono ?_; rintro q w' ⟨rfl, rfl⟩
    go_wp2_with fail
    go_ret2
    exact ⟨_, by rw [HF.out.1]; rfl, by rw [HF.out.2]; exact Ow.nil_, hlen, b0⟩
  · by_cases h8 : n = 8
    · subst h8
      have hik := inB_true h1
      obtain ⟨k, rfl⟩ := Int.eq_ofNat_of_zero_le hik.1
      have hk : k < 8 := by omega
      obtain ⟨b, off, t, rfl, ht, _, hbl, f0, f1, f2, f3, f4⟩ := Iq.get hr0 hk (Below.refl ((w.alloc (.cells #[.int .i64 p] 3)).alloc (.cells #[.int .i64 q] 3)).heap.size ((w.alloc (.cells #[.int .i64 p] 3)).alloc (.cells #[.int .i64 q] 3))) (by omega)
      have hat := Iq.at_get ht.out
      rw [h1] at c2
      cases hq : Iq.idle t
      · have HF := Lib.hid (Iq.do_no (l := l) (i := k) (g := Iq.idle) (f := (Iq.routed p q)) (by simp [Iq.doOk, hat, hq]))
        have hq2 : t.active = true := by simpa [Iq.idle] using hq
        rw [hq2] at f2
        clear hq2
        clear hq hat h1 hik c1
        go_enter Try.func50, Try.ntmps50
        go_wp2_with fail
        refine (c2 _).mono ?_; rintro q w' ⟨rfl, rfl⟩
        go_wp2_with fail
        go_ret2
        exact ⟨_, by rw [HF.out.1]; rfl, by rw [HF.out.2]; exact Ow.nil_, hlen, b0⟩
      · have HU := Lib.hid (Iq.up_do (l := l) (i := k) (g := Iq.idle) (Iq.routed p q) (by rw [hat]; exact hq))
        have hq2 : t.active = false := by simpa [Iq.idle] using hq
        rw [hq2] at f2
        clear hq2
        clear hq hat h1 hik
        go_enter Try.func50, Try.ntmps50
        go_wp2_with fail
        refine (c2 _).mono ?_; rintro q w' ⟨rfl, rfl⟩
        go_wp2_with fail
        refine (c1 _ hr0 (by omega) (by omega) k0 k1).mono ?_
        rintro q w2 ⟨v', rfl, o1, b2⟩
        go_wp2_with fail
        go_ret2
        exact ⟨v', by rw [HU.out.1]; rfl, by rw [← HU.out.2]; exact o1.mono (by omega) (Nat.le_refl _), hlen, b0.trans (b2.mono (by omega))⟩
    · have HF := Lib.hid (Iq.do_no (l := l) (i := i) (g := Iq.idle) (f := (Iq.routed p q)) (by
        have : Iq.good l = false := by
          have hn := H.out
          simp only [Iq.good, Bool.and_eq_false_iff, decide_eq_false_iff_not]; left; omega
        simp [Iq.doOk, Iq.asked, this]))
      rw [h1] at c2
      have h8' : ¬ (n : Int) = 8 := by omega
      clear h1 c1
      go_enter Try.func50, Try.ntmps50
      go_wp2_with fail
      refine (c2 _).mono ?_; rintro q w' ⟨rfl, rfl⟩
      go_wp2_with fail
      go_ret2
      exact ⟨_, by rw [HF.out.1]; rfl, by rw [HF.out.2]; exact Ow.nil_, hlen, b0⟩
set_option maxHeartbeats 1000000 in
theorem specRouteIrq_any (v : Value) (l : List Iq) (i : Int) (p : Int) (q : Int) (w : World) {lo hi : Nat} (h : Rd Iq.cells 5 w lo hi v l) (hh : hi ≤ w.heap.size) :
    Calls Try.prog 51 #[v, .int .i64 i, .int .i64 p, .int .i64 q] w fun r w' => ∃ v', r = .returned (.tuple #[v', .bool (Iq.doOk l i Iq.idle (Iq.routed p q))]) ∧ Rd Iq.cells 5 w' 0 w'.heap.size v' (Iq.doR l i Iq.idle (Iq.routed p q)) ∧ Below w.heap.size w w' := by
  have c1 := l6Asked_any v l i w h hh
  have c2 := fun W => l6Prio_any p W
  have c3 := fun W => l6Cpu_any q W
  have hrd := h
  obtain ⟨A, n, c, rfl, H, hc, hm⟩ := h.form
  cases hb : Iq.asked l i
  · have HF := Lib.hid (Iq.do_no (l := l) (i := i) (g := Iq.idle) (f := (Iq.routed p q)) (by simp [Iq.doOk, hb]))
    rw [hb] at c1
    clear hb
    go_enter Try.func51, Try.ntmps51
    go_wp2_with fail
    refine c1.mono ?_; rintro q_ w1 ⟨rfl, b1⟩
    go_wp2_with fail
    go_ret2
    exact ⟨_, by rw [HF.out.1]; rfl, by rw [HF.out.2]; exact Rd.empty (by decide), b1.alloc b1.size _⟩
  · cases h1 : inB p 0 15
    · have HF := Lib.hid (Iq.do_no (l := l) (i := i) (g := Iq.idle) (f := (Iq.routed p q)) (by simp [Iq.doOk, Iq.routed, Iq.ok, h1]))
      rw [hb] at c1
      rw [h1] at c2
      clear hb h1
      go_enter Try.func51, Try.ntmps51
      go_wp2_with fail
      refine c1.mono ?_; rintro q_ w1 ⟨rfl, b1⟩
      go_wp2_with fail
      refine (c2 _).mono ?_; rintro q_ w' ⟨rfl, rfl⟩
      go_wp2_with fail
      go_ret2
      exact ⟨_, by rw [HF.out.1]; rfl, by rw [HF.out.2]; exact Rd.empty (by decide), b1.alloc b1.size _⟩
    · cases h2 : inB q 0 3
      · have HF := Lib.hid (Iq.do_no (l := l) (i := i) (g := Iq.idle) (f := (Iq.routed p q)) (by simp [Iq.doOk, Iq.routed, Iq.ok, h2]))
        rw [hb] at c1
        rw [h1] at c2
        rw [h2] at c3
        clear hb h1 h2
        go_enter Try.func51, Try.ntmps51
        go_wp2_with fail
        refine c1.mono ?_; rintro q_ w1 ⟨rfl, b1⟩
        go_wp2_with fail
        refine (c2 _).mono ?_; rintro q_ w' ⟨rfl, rfl⟩
        go_wp2_with fail
        refine (c3 _).mono ?_; rintro q_ w' ⟨rfl, rfl⟩
        go_wp2_with fail
        go_ret2
        exact ⟨_, by rw [HF.out.1]; rfl, by rw [HF.out.2]; exact Rd.empty (by decide), b1.alloc b1.size _⟩
      · obtain ⟨k, t, rfl, hk7, hk, ht, hg⟩ := Iq.asked_get hb
        have hl8 := Iq.good_len hg
        have hok := Iq.good_ok hg ht
        have hat := Iq.at_get ht
        have hkn : k < n := by rw [H.out]; exact hk
        have c4 := fun (W : World) (kb : Below w.heap.size w W) => l6With_any _ l k ((Iq.routed p q) t) W (hrd.below kb hh) (Nat.le_trans hh kb.size) hk (by omega)
        have HT := Lib.hid ht
        have hokf : ((Iq.routed p q) t).ok = true := by simp [Iq.routed, Iq.ok, h1, h2]
        cases hq : Iq.idle t
        · have HF := Lib.hid (Iq.do_no (l := l) (i := k) (g := Iq.idle) (f := (Iq.routed p q)) (by simp [Iq.doOk, hat, hq]))
          rw [hb] at c1
          rw [h1] at c2
          rw [h2] at c3
          have hq2 : t.active = true := by simpa [Iq.idle] using hq
          clear c4 hq hat hok hokf hb hg ht hl8 h1 h2
          go_enter Try.func51, Try.ntmps51
          go_wp2_with fail
          refine c1.mono ?_; rintro q_ w1 ⟨rfl, b1⟩
          go_wp2_with fail
          refine (c2 _).mono ?_; rintro q_ w' ⟨rfl, rfl⟩
          go_wp2_with fail
          refine (c3 _).mono ?_; rintro q_ w' ⟨rfl, rfl⟩
          obtain ⟨b, off, t', rfl, ht', _, hbl, f0, f1, f2, f3, f4⟩ := Iq.get hrd hkn b1 hh
          obtain rfl := Option.some.inj (HT.out.symm.trans ht'.out)
          have hbw1 : b < w1.heap.size := by have := b1.size; omega
          rw [hq2] at f2
          clear hq2
          go_wp2_with fail
          go_ret2
          exact ⟨_, by rw [HF.out.1]; rfl, by rw [HF.out.2]; exact Rd.empty (by decide), b1.alloc b1.size _⟩
        · skip
          have HF := Lib.hid (Iq.do_yes (g := Iq.idle) (f := (Iq.routed p q)) HT.out (by simp [Iq.doOk, hb, hat, hokf, hq]))
          rw [hb] at c1
          rw [h1] at c2
          rw [h2] at c3
          have hq2 : t.active = false := by simpa [Iq.idle] using hq
          unfold Iq.routed Iq.val at c4
          clear hq hat hok hokf hb hg ht hl8 h1 h2
          go_enter Try.func51, Try.ntmps51
          go_wp2_with fail
          refine c1.mono ?_; rintro q_ w1 ⟨rfl, b1⟩
          go_wp2_with fail
          refine (c2 _).mono ?_; rintro q_ w' ⟨rfl, rfl⟩
          go_wp2_with fail
          refine (c3 _).mono ?_; rintro q_ w' ⟨rfl, rfl⟩
          obtain ⟨b, off, t', rfl, ht', _, hbl, f0, f1, f2, f3, f4⟩ := Iq.get hrd hkn b1 hh
          obtain rfl := Option.some.inj (HT.out.symm.trans ht'.out)
          have hbw1 : b < w1.heap.size := by have := b1.size; omega
          rw [hq2] at f2
          have HE := Lib.hid (show Iq.routed p q t = ⟨t.enabled, t.pending, false, p, q⟩ from by simp [Iq.routed, hq2])
          simp only [hq2] at c4
          clear hq2
          go_wp2_with fail
          refine (c4 _ ?bel).mono ?_
          case bel => first | exact (b1.alloc b1.size _) | exact setL_below (b1.alloc b1.size _) [_] _ _ b1.size | exact setL_below (setL_below (b1.alloc b1.size _) [_] _ _ b1.size) [_] _ _ b1.size
          rintro q_ w3 ⟨v', rfl, o1, b3⟩
          have z3 := b1.size
          go_wp2_with fail
          go_ret2
          refine ⟨v', by rw [HF.out.1]; rfl, by rw [HF.out.2, HE.out]; exact o1.rd.mono (Nat.zero_le _) (Nat.le_refl _), ?_⟩
          first | exact (b1.alloc b1.size _).trans (b3.mono (by simp; omega)) | exact (setL_below (b1.alloc b1.size _) [_] _ _ b1.size).trans (b3.mono (by simp [World.setCell]; omega)) | exact (setL_below (setL_below (b1.alloc b1.size _) [_] _ _ b1.size) [_] _ _ b1.size).trans (b3.mono (by simp [World.setCell]; omega))
set_option maxHeartbeats 1000000 in
theorem implSetPending_any (v : Value) (l : List Iq) (i : Int) (p : Bool) (w : World) {lo hi : Nat} (h : Rd Iq.cells 5 w lo hi v l) (hh : hi ≤ w.heap.size) :
    Calls Try.prog 41 #[v, .int .i64 i, .bool p] w fun r w' => ∃ v', r = .returned (.tuple #[v', .bool (Iq.doOk l i Iq.yes (Iq.setP p))]) ∧ Ow Iq.cells 5 62 w' w.heap.size w'.heap.size v' (Iq.doR l i Iq.yes (Iq.setP p)) ∧ (Iq.doR l i Iq.yes (Iq.setP p)).length ≤ 1048576 ∧ Below w.heap.size w w' := by
  have hlen := Iq.doR_len l i Iq.yes (Iq.setP p)
  have b0 : Below w.heap.size w (w.alloc (.cells #[.bool p] 4)) := (Below.refl w.heap.size w).alloc (Nat.le_refl _) (.cells #[.bool p] 4)
  have z0 : (w.alloc (.cells #[.bool p] 4)).heap.size = w.heap.size + 1 := by simp
  have k0 : (w.alloc (.cells #[.bool p] 4)).cell? ⟨w.heap.size + 0, 0, none⟩ = some (.bool p) := by simp
  have hr0 : Rd Iq.cells 5 (w.alloc (.cells #[.bool p] 4)) lo hi v l := h.below b0 hh
  have c1 := fun (w1 : World) (hr : Rd Iq.cells 5 w1 lo hi v l) (hh : hi ≤ w1.heap.size) (hz : w.heap.size + 1 ≤ w1.heap.size) (h1 : w1.cell? ⟨w.heap.size, 0, none⟩ = some (.bool p)) =>
    withIrq_any 107 #[.pointer (some ⟨w.heap.size, 0, none⟩)] (Iq.setP p) v l i w1 hr hh (enters Try.func107 (by kernel_rfl) rfl) (fun W b o t hb hbw f0 f1 _ _ _ hfz => setPClo_any p w1 h1 (by omega) W b o t hb hbw f0 f1 hfz)
  have HU := Lib.hid (Iq.up_do (l := l) (i := i) (g := Iq.yes) (Iq.setP p) rfl)
  go_enter Try.func41, Try.ntmps41
  go_wp2_with fail
  refine (c1 _ hr0 (by omega) (by omega) k0).mono ?_
  rintro q w1 ⟨v', rfl, o1, b1⟩
  go_wp2_with fail
  go_ret2
  exact ⟨v', by rw [HU.out.1]; rfl, by rw [← HU.out.2]; exact o1.mono (by omega) (Nat.le_refl _), hlen, b0.trans (b1.mono (by omega))⟩
set_option maxHeartbeats 1000000 in
theorem specSetPending_any (v : Value) (l : List Iq) (i : Int) (p : Bool) (w : World) {lo hi : Nat} (h : Rd Iq.cells 5 w lo hi v l) (hh : hi ≤ w.heap.size) :
    Calls Try.prog 45 #[v, .int .i64 i, .bool p] w fun r w' => ∃ v', r = .returned (.tuple #[v', .bool (Iq.doOk l i Iq.yes (Iq.setP p))]) ∧ Rd Iq.cells 5 w' 0 w'.heap.size v' (Iq.doR l i Iq.yes (Iq.setP p)) ∧ Below w.heap.size w w' := by
  have c1 := l6Asked_any v l i w h hh
  have hrd := h
  obtain ⟨A, n, c, rfl, H, hc, hm⟩ := h.form
  cases hb : Iq.asked l i
  · have HF := Lib.hid (Iq.do_no (l := l) (i := i) (g := Iq.yes) (f := (Iq.setP p)) (by simp [Iq.doOk, hb]))
    rw [hb] at c1
    clear hb
    go_enter Try.func45, Try.ntmps45
    go_wp2_with fail
    refine c1.mono ?_; rintro q_ w1 ⟨rfl, b1⟩
    go_wp2_with fail
    go_ret2
    exact ⟨_, by rw [HF.out.1]; rfl, by rw [HF.out.2]; exact Rd.empty (by decide), b1.alloc b1.size _⟩
  · obtain ⟨k, t, rfl, hk7, hk, ht, hg⟩ := Iq.asked_get hb
    have hl8 := Iq.good_len hg
    have hok := Iq.good_ok hg ht
    have hat := Iq.at_get ht
    have hkn : k < n := by rw [H.out]; exact hk
    have c4 := fun (W : World) (kb : Below w.heap.size w W) => l6With_any _ l k ((Iq.setP p) t) W (hrd.below kb hh) (Nat.le_trans hh kb.size) hk (by omega)
    have HT := Lib.hid ht
    have hokf : ((Iq.setP p) t).ok = true := Iq.ok_setP hok
    have HF := Lib.hid (Iq.do_yes (g := Iq.yes) (f := (Iq.setP p)) HT.out (by simp [Iq.doOk, hb, hat, hokf, Iq.yes]))
    rw [hb] at c1
    unfold Iq.setP Iq.val at c4
    clear hat hok hokf hb hg ht hl8
    go_enter Try.func45, Try.ntmps45
    go_wp2_with fail
    refine c1.mono ?_; rintro q_ w1 ⟨rfl, b1⟩
    obtain ⟨b, off, t', rfl, ht', _, hbl, f0, f1, f2, f3, f4⟩ := Iq.get hrd hkn b1 hh
    obtain rfl := Option.some.inj (HT.out.symm.trans ht'.out)
    have hbw1 : b < w1.heap.size := by have := b1.size; omega
    go_wp2_with fail
    refine (c4 _ ?bel).mono ?_
    case bel => first | exact (b1.alloc b1.size _) | exact setL_below (b1.alloc b1.size _) [_] _ _ b1.size | exact setL_below (setL_below (b1.alloc b1.size _) [_] _ _ b1.size) [_] _ _ b1.size
    rintro q_ w3 ⟨v', rfl, o1, b3⟩
    have z3 := b1.size
    go_wp2_with fail
    go_ret2
    refine ⟨v', by rw [HF.out.1]; rfl, by rw [HF.out.2]; exact o1.rd.mono (Nat.zero_le _) (Nat.le_refl _), ?_⟩
    first | exact (b1.alloc b1.size _).trans (b3.mono (by simp; omega)) | exact (setL_below (b1.alloc b1.size _) [_] _ _ b1.size).trans (b3.mono (by simp [World.setCell]; omega)) | exact (setL_below (setL_below (b1.alloc b1.size _) [_] _ _ b1.size) [_] _ _ b1.size).trans (b3.mono (by simp [World.setCell]; omega))
set_option maxHeartbeats 1000000 in
theorem implEnableIrq_any (v : Value) (l : List Iq) (i : Int) (p : Bool) (w : World) {lo hi : Nat} (h : Rd Iq.cells 5 w lo hi v l) (hh : hi ≤ w.heap.size) :
    Calls Try.prog 47 #[v, .int .i64 i, .bool p] w fun r w' => ∃ v', r = .returned (.tuple #[v', .bool (Iq.doOk l i Iq.yes (Iq.setE p))]) ∧ Ow Iq.cells 5 62 w' w.heap.size w'.heap.size v' (Iq.doR l i Iq.yes (Iq.setE p)) ∧ (Iq.doR l i Iq.yes (Iq.setE p)).length ≤ 1048576 ∧ Below w.heap.size w w' := by
  have hlen := Iq.doR_len l i Iq.yes (Iq.setE p)
  have b0 : Below w.heap.size w (w.alloc (.cells #[.bool p] 4)) := (Below.refl w.heap.size w).alloc (Nat.le_refl _) (.cells #[.bool p] 4)
  have z0 : (w.alloc (.cells #[.bool p] 4)).heap.size = w.heap.size + 1 := by simp
  have k0 : (w.alloc (.cells #[.bool p] 4)).cell? ⟨w.heap.size + 0, 0, none⟩ = some (.bool p) := by simp
  have hr0 : Rd Iq.cells 5 (w.alloc (.cells #[.bool p] 4)) lo hi v l := h.below b0 hh
  have c1 := fun (w1 : World) (hr : Rd Iq.cells 5 w1 lo hi v l) (hh : hi ≤ w1.heap.size) (hz : w.heap.size + 1 ≤ w1.heap.size) (h1 : w1.cell? ⟨w.heap.size, 0, none⟩ = some (.bool p)) =>
    withIrq_any 108 #[.pointer (some ⟨w.heap.size, 0, none⟩)] (Iq.setE p) v l i w1 hr hh (enters Try.func108 (by kernel_rfl) rfl) (fun W b o t hb hbw f0 f1 _ _ _ hfz => setEClo_any p w1 h1 (by omega) W b o t hb hbw f0 f1 hfz)
  have HU := Lib.hid (Iq.up_do (l := l) (i := i) (g := Iq.yes) (Iq.setE p) rfl)
  go_enter Try.func47, Try.ntmps47
  go_wp2_with fail
  refine (c1 _ hr0 (by omega) (by omega) k0).mono ?_
  rintro q w1 ⟨v', rfl, o1, b1⟩
  go_wp2_with fail
  go_ret2
  exact ⟨v', by rw [HU.out.1]; rfl, by rw [← HU.out.2]; exact o1.mono (by omega) (Nat.le_refl _), hlen, b0.trans (b1.mono (by omega))⟩
set_option maxHeartbeats 1000000 in
theorem specEnableIrq_any (v : Value) (l : List Iq) (i : Int) (p : Bool) (w : World) {lo hi : Nat} (h : Rd Iq.cells 5 w lo hi v l) (hh : hi ≤ w.heap.size) :
    Calls Try.prog 48 #[v, .int .i64 i, .bool p] w fun r w' => ∃ v', r = .returned (.tuple #[v', .bool (Iq.doOk l i Iq.yes (Iq.setE p))]) ∧ Rd Iq.cells 5 w' 0 w'.heap.size v' (Iq.doR l i Iq.yes (Iq.setE p)) ∧ Below w.heap.size w w' := by
  have c1 := l6Asked_any v l i w h hh
  have hrd := h
  obtain ⟨A, n, c, rfl, H, hc, hm⟩ := h.form
  cases hb : Iq.asked l i
  · have HF := Lib.hid (Iq.do_no (l := l) (i := i) (g := Iq.yes) (f := (Iq.setE p)) (by simp [Iq.doOk, hb]))
    rw [hb] at c1
    clear hb
    go_enter Try.func48, Try.ntmps48
    go_wp2_with fail
    refine c1.mono ?_; rintro q_ w1 ⟨rfl, b1⟩
    go_wp2_with fail
    go_ret2
    exact ⟨_, by rw [HF.out.1]; rfl, by rw [HF.out.2]; exact Rd.empty (by decide), b1.alloc b1.size _⟩
  · obtain ⟨k, t, rfl, hk7, hk, ht, hg⟩ := Iq.asked_get hb
    have hl8 := Iq.good_len hg
    have hok := Iq.good_ok hg ht
    have hat := Iq.at_get ht
    have hkn : k < n := by rw [H.out]; exact hk
    have c4 := fun (W : World) (kb : Below w.heap.size w W) => l6With_any _ l k ((Iq.setE p) t) W (hrd.below kb hh) (Nat.le_trans hh kb.size) hk (by omega)
    have HT := Lib.hid ht
    have hokf : ((Iq.setE p) t).ok = true := Iq.ok_setE hok
    have HF := Lib.hid (Iq.do_yes (g := Iq.yes) (f := (Iq.setE p)) HT.out (by simp [Iq.doOk, hb, hat, hokf, Iq.yes]))
    rw [hb] at c1
    unfold Iq.setE Iq.val at c4
    clear hat hok hokf hb hg ht hl8
    go_enter Try.func48, Try.ntmps48
    go_wp2_with fail
    refine c1.mono ?_; rintro q_ w1 ⟨rfl, b1⟩
    obtain ⟨b, off, t', rfl, ht', _, hbl, f0, f1, f2, f3, f4⟩ := Iq.get hrd hkn b1 hh
    obtain rfl := Option.some.inj (HT.out.symm.trans ht'.out)
    have hbw1 : b < w1.heap.size := by have := b1.size; omega
    go_wp2_with fail
    refine (c4 _ ?bel).mono ?_
    case bel => first | exact (b1.alloc b1.size _) | exact setL_below (b1.alloc b1.size _) [_] _ _ b1.size | exact setL_below (setL_below (b1.alloc b1.size _) [_] _ _ b1.size) [_] _ _ b1.size
    rintro q_ w3 ⟨v', rfl, o1, b3⟩
    have z3 := b1.size
    go_wp2_with fail
    go_ret2
    refine ⟨v', by rw [HF.out.1]; rfl, by rw [HF.out.2]; exact o1.rd.mono (Nat.zero_le _) (Nat.le_refl _), ?_⟩
    first | exact (b1.alloc b1.size _).trans (b3.mono (by simp; omega)) | exact (setL_below (b1.alloc b1.size _) [_] _ _ b1.size).trans (b3.mono (by simp [World.setCell]; omega)) | exact (setL_below (setL_below (b1.alloc b1.size _) [_] _ _ b1.size) [_] _ _ b1.size).trans (b3.mono (by simp [World.setCell]; omega))

end Go.Proofs.Ytgnalbfepkcokaa
