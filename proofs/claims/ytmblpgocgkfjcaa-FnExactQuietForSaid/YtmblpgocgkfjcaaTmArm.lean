/- Arming and disarming a timer, in the program and in the reference. No condition. -/
import Derived.Test.YtmblpgocgkfjcaaTmL
import Derived.Test.YtmblpgocgkfjcaaBase2
import Derived.Test.YtmblpgocgkfjcaaTyInt
namespace Go.Proofs.Ytmblpgocgkfjcaa
open Go.RowKit Go.ChangeShapes Go.WideShapes Go.Deep

def Tm.hasB (l : List Tm) (i : Int) : Bool := Tm.good l && inB i 0 ((l.length : Int) - 1)
/-- the list in which timer i is changed by f -/
def Tm.up (l : List Tm) (i : Int) (f : Tm → Tm) : List Tm := l.set i.toNat (f (l.getD i.toNat default))
def Tm.upOk (l : List Tm) (i : Int) (f : Tm → Tm) : Bool := Tm.hasB l i && Tm.good (Tm.up l i f)
def Tm.upR (l : List Tm) (i : Int) (f : Tm → Tm) : List Tm := if Tm.upOk l i f then Tm.up l i f else []
def Tm.arm (n e : Int) (t : Tm) : Tm := ⟨true, n, e, t.irq⟩
def Tm.disarm (t : Tm) : Tm := ⟨false, 0, t.every, t.irq⟩

theorem Tm.good_set {l : List Tm} {i : Nat} (t : Tm) (h : Tm.good l = true) (hi : i < l.length) : Tm.good (l.set i t) = t.ok := by
  simp only [Tm.good, Bool.and_eq_true, List.all_eq_true] at h
  cases ht : t.ok
  · have : (l.set i t).all Tm.ok = false := by
      rw [List.all_eq_false]
      exact ⟨t, List.mem_set hi t, by simp [ht]⟩
    simp [Tm.good, this]
  · have : (l.set i t).all Tm.ok = true := by
      rw [List.all_eq_true]
      intro x hx
      rcases List.mem_or_eq_of_mem_set hx with hx | rfl
      · exact h.2 x hx
      · exact ht
    simp only [Tm.good, this, List.length_set, Bool.and_true]
    exact h.1
theorem Tm.good_len {l : List Tm} (h : Tm.good l = true) : l.length ≤ 8 := by
  simp only [Tm.good, Bool.and_eq_true, decide_eq_true_eq] at h; omega
theorem Tm.good_ok {l : List Tm} (h : Tm.good l = true) {i : Nat} {t : Tm} (ht : l[i]? = some t) : t.ok = true := by
  simp only [Tm.good, Bool.and_eq_true, List.all_eq_true] at h
  exact h.2 t (List.mem_of_getElem? ht)
theorem Tm.upR_len (l : List Tm) (i : Int) (f : Tm → Tm) : (Tm.upR l i f).length ≤ 1048576 := by
  unfold Tm.upR
  split
  · rename_i h
    simp only [Tm.upOk, Bool.and_eq_true] at h
    have := Tm.good_len h.2
    omega
  · simp
theorem Tm.has_get {l : List Tm} {i : Int} (h : Tm.hasB l i = true) : ∃ (k : Nat) (t : Tm), i = k ∧ k < l.length ∧ l[k]? = some t ∧ Tm.good l = true := by
  simp only [Tm.hasB, Bool.and_eq_true] at h
  have := inB_true h.2
  obtain ⟨k, rfl⟩ := Int.eq_ofNat_of_zero_le this.1
  have hk : k < l.length := by omega
  exact ⟨k, l[k], rfl, hk, List.getElem?_eq_getElem _, h.1⟩
theorem Tm.up_at {l : List Tm} {k : Nat} {t : Tm} (ht : l[k]? = some t) (f : Tm → Tm) : Tm.up l (k : Int) f = l.set k (f t) := by
  simp [Tm.up, ht]

theorem Tm.armOk (l : List Tm) (i n e : Int) : Tm.upOk l i (Tm.arm n e) = (Tm.hasB l i && (inB n 0 100000 && inB e 0 100000)) := by
  cases h : Tm.hasB l i
  · simp [Tm.upOk, h]
  · obtain ⟨k, t, rfl, hk, ht, hg⟩ := Tm.has_get h
    have hok := Tm.good_ok hg ht
    simp only [Tm.ok, Bool.and_eq_true] at hok
    simp [Tm.upOk, h, Tm.up_at ht, Tm.good_set _ hg hk, Tm.ok, Tm.arm, hok.2.2.1]
theorem Tm.disarmOk (l : List Tm) (i : Int) : Tm.upOk l i Tm.disarm = Tm.hasB l i := by
  cases h : Tm.hasB l i
  · simp [Tm.upOk, h]
  · obtain ⟨k, t, rfl, hk, ht, hg⟩ := Tm.has_get h
    have hok := Tm.good_ok hg ht
    simp only [Tm.ok, Bool.and_eq_true] at hok
    rw [Tm.upOk, h, Tm.up_at ht, Tm.good_set _ hg hk]
    simp only [Tm.ok, Tm.disarm, hok.2.2.1, hok.2.1]
    decide

theorem l11Has_any (v : Value) (l : List Tm) (i : Int) (w : World) {lo hi : Nat} (h : Rd Tm.cells 4 w lo hi v l) (hh : hi ≤ w.heap.size) : Calls Try.prog 51 #[v, .int .i64 i] w fun e w' => e = .returned (.bool (Tm.hasB l i)) ∧ Below w.heap.size w w' := by
  have c1 := l11Good_any v l w h hh
  obtain ⟨A, n, c, rfl, H, hc, hm⟩ := h.form
  have c2 := fun W => l1In_any i 0 ((n : Int) - 1) W
  have HF := Lib.hid (show Tm.hasB l i = (Tm.good l && inB i 0 ((n : Int) - 1)) from by rw [H.out]; rfl)
  generalize Tm.good l = g at c1 HF
  cases g
  all_goals
    go_enter Try.func51, Try.ntmps51
    go_wp2_with (first | (go_at_call 45; refine c1.mono ?_; rintro e w1 ⟨rfl, b1⟩) | (go_at_call 55; refine (c2 _).mono ?_; rintro e w' ⟨rfl, rfl⟩))
    go_ret
    exact ⟨ret_bool (by rw [HF.out]; simp), b1⟩

theorem armClo_any (n e : Int) (w : World) {B1 B2 : Nat} (h1 : w.cell? ⟨B1, 0, none⟩ = some (.int .i64 n)) (h2 : w.cell? ⟨B2, 0, none⟩ = some (.int .i64 e)) (hB1 : B1 < w.heap.size) (hB2 : B2 < w.heap.size)
    (W : World) (b o : Nat) (t : Tm) (hb : Below w.heap.size w W) (hbw : w.heap.size ≤ b) (f0 : W.cell? ⟨b, o, none⟩ = some (.bool t.armed)) (f1 : W.cell? ⟨b, o + 1, none⟩ = some (.int .i64 t.next)) (f2 : W.cell? ⟨b, o + 2, none⟩ = some (.int .i64 t.every)) (hfz : ∀ j, W.frozen? ⟨b, j, none⟩ = false) :
    Calls Try.prog 53 (#[.pointer (some ⟨b, o, none⟩)] ++ #[.pointer (some ⟨B1, 0, none⟩), .pointer (some ⟨B2, 0, none⟩)]) W fun r w' => r = .returned (.tuple #[]) ∧ Upd 25 4 W w' b o t.cells (Tm.arm n e t).cells := by
  rw [← hb.cell (p := ⟨B1, 0, none⟩) hB1] at h1
  rw [← hb.cell (p := ⟨B2, 0, none⟩) hB2] at h2
  have hn1 : B1 < b := by omega
  have hn2 : B2 < b := by omega
  clear hb hbw hB1 hB2
  go_enter Try.func53, Try.ntmps53
  go_region
  go_end0
  exact ⟨rfl, Upd.drew (Upd.of_setL 0 (ys := [.bool true, .int .i64 n, .int .i64 e]) rfl rfl (by simp))⟩
theorem disarmClo_any (W : World) (b o : Nat) (t : Tm) (f0 : W.cell? ⟨b, o, none⟩ = some (.bool t.armed)) (f1 : W.cell? ⟨b, o + 1, none⟩ = some (.int .i64 t.next)) (hfz : ∀ j, W.frozen? ⟨b, j, none⟩ = false) :
    Calls Try.prog 54 #[.pointer (some ⟨b, o, none⟩)] W fun r w' => r = .returned (.tuple #[]) ∧ Upd 25 4 W w' b o t.cells (Tm.disarm t).cells := by
  go_enter Try.func54, Try.ntmps54
  go_wp2
  go_end0
  exact ⟨rfl, Upd.of_setL 0 (ys := [.bool false, .int .i64 0]) rfl rfl (by decide)⟩

theorem withTimer_any (g : FuncId) (lb : Array Value) (f : Tm → Tm) (v : Value) (l : List Tm) (i : Int) (w : World) {lo hi : Nat} (h : Rd Tm.cells 4 w lo hi v l) (hh : hi ≤ w.heap.size)
    (eg : ∀ args w, (callFunc g args).run Try.prog w = .ok (.enter g args) w)
    (hf : ∀ (W : World) (b o : Nat) (t : Tm), Below w.heap.size w W → w.heap.size ≤ b → W.cell? ⟨b, o, none⟩ = some (.bool t.armed) → W.cell? ⟨b, o + 1, none⟩ = some (.int .i64 t.next) → W.cell? ⟨b, o + 2, none⟩ = some (.int .i64 t.every) → W.cell? ⟨b, o + 3, none⟩ = some (.int .i64 t.irq) → (∀ j, W.frozen? ⟨b, j, none⟩ = false) →
      Calls Try.prog g (#[.pointer (some ⟨b, o, none⟩)] ++ lb) W fun r w' => r = .returned (.tuple #[]) ∧ Upd 25 4 W w' b o t.cells (f t).cells) :
    Calls Try.prog 52 #[v, .int .i64 i, .func (.func g) #[] lb] w fun e w' => ∃ v', e = .returned (.tuple #[v', .bool (Tm.upOk l i f)]) ∧ Ow Tm.cells 4 25 w' w.heap.size w'.heap.size v' (Tm.upR l i f) ∧ Below w.heap.size w w' := by
  have c1 := implAreTimers_any v l w h hh
  have hrd := h
  obtain ⟨A, n, c, rfl, H, hc, hm⟩ := h.form
  have c2 := fun W => inside_any i 0 ((n : Int) - 1) W
  have HP := Lib.hid hf
  clear hf
  cases hb : Tm.hasB l i
  · have HF := Lib.hid (show Tm.upOk l i f = false ∧ Tm.upR l i f = [] from by simp [Tm.upR, Tm.upOk, hb])
    have HG := Lib.hid (show (Tm.good l && inB i 0 ((n : Int) - 1)) = false from by rw [H.out]; exact hb)
    clear hb
    generalize Tm.good l = b1 at c1 HG
    cases b1
    · go_enter Try.func52, Try.ntmps52
      go_wp2_with (first | (go_at_call 20; refine c1.mono ?_; rintro e w1 ⟨rfl, b1⟩) | (go_at_call 56; refine (c2 _).mono ?_; rintro e w' ⟨rfl, rfl⟩))
      go_ret2
      exact ⟨_, by rw [HF.out.1]; rfl, by rw [HF.out.2]; exact Ow.nil_, b1⟩
    · have hg := HG.out
      rw [Bool.true_and] at hg
      rw [hg] at c2
      clear hg
      go_enter Try.func52, Try.ntmps52
      go_wp2_with (first | (go_at_call 20; refine c1.mono ?_; rintro e w1 ⟨rfl, b1⟩) | (go_at_call 56; refine (c2 _).mono ?_; rintro e w' ⟨rfl, rfl⟩))
      go_ret2
      exact ⟨_, by rw [HF.out.1]; rfl, by rw [HF.out.2]; exact Ow.nil_, b1⟩
  · obtain ⟨k, t, rfl, hk, ht, hg⟩ := Tm.has_get hb
    have hin : inB (k : Int) 0 ((n : Int) - 1) = true := by rw [inB_iff, H.out]; omega
    have hn8 := Tm.good_len hg
    rw [← H.out] at hk hn8
    rw [hg] at c1
    rw [hin] at c2
    have HF := Lib.hid (show Tm.upOk l k f = Tm.good (l.set k (f t)) from by simp [Tm.upOk, hb, Tm.up_at ht])
    have HR := Lib.hid (show Tm.upR l k f = if Tm.good (l.set k (f t)) then l.set k (f t) else [] from by simp [Tm.upR, Tm.upOk, hb, Tm.up_at ht])
    have HT := Lib.hid ht
    clear hb hg hin ht
    go_enter Try.func52, Try.ntmps52
    go_wp2_with fail
    refine c1.mono ?_; rintro e w1 ⟨rfl, b1⟩
    go_wp2_with fail
    refine (c2 _).mono ?_; rintro e w' ⟨rfl, rfl⟩
    replace hrd := hrd.below b1 hh
    go_wp2_with (at_builtin; refine Tm.app_rd rfl _ _ rfl w.heap.size (.slice (some ⟨w1.heap.size, 0, none⟩) 0 0) 0 [] rfl (World.ownsRow_lit _ #[] 0 b1.size (by decide) rfl) rfl (hrd.below (Below.alloc (Below.refl _ _) (Nat.le_refl _) _) (Nat.le_trans hh b1.size)) (by omega) (by have := b1.size; simp; omega) ?_; intro v2 w2 hown hg2; obtain ⟨g2, cap, rfl, hgb, hgl⟩ := hown.form (by omega); have hfz := hown.frozenAt; have ow := Ow.of_own Tm.cells_len hown (l := l) (by simp) (by rw [← H.out]; omega); rw [Nat.zero_add] at ow; obtain ⟨_, _, t', e, ht', _, hgl', f0, f1, f2, f3⟩ := Tm.get ow.rd hk (Below.refl w2.heap.size w2) (Nat.le_refl _); injection e with e; injection e with e1 e2; subst e1; subst e2; obtain rfl := Option.some.inj (HT.out.symm.trans ht'.out); clear hown)
    simp only [Nat.zero_add] at f0 f1 f2 f3
    have b2 : Below w.heap.size w w2 := (b1.alloc b1.size _).grown hg2 (by have := b1.size; simp; omega) (by intro j hj; simp [Value.ownBlock] at hj; have := b1.size; omega)
    clear hg2
    refine (HP.out w2 g2 (k * 4) t b2 hgb f0 f1 f2 f3 hfz).mono ?_; rintro e w3 ⟨rfl, hu⟩
    replace ow := ow.upd Tm.cells_len (by omega) HT.out (by rw [Nat.zero_add]; exact hu)
    have s3 := hu.1.size
    have b3 : Below w.heap.size w w3 := b2.grown hu.1 b2.size (by rintro j ⟨⟩; exact hgb)
    have c4 := implAreTimers_any _ _ w3 ow.rd s3
    replace ow := ow.mono (Nat.le_refl _) s3
    clear f0 f1 f2 f3 hfz hu b2
    cases hg3 : Tm.good (l.set k (f t))
    · rw [hg3] at c4
      have HF2 := Lib.hid hg3
      clear hg3
      go_wp2_with fail
      refine c4.mono ?_; rintro e w4 ⟨rfl, b4⟩
      go_wp2_with fail
      go_ret2
      exact ⟨_, by rw [HF.out, HF2.out]; rfl, by rw [HR.out, HF2.out]; exact Ow.nil_, b3.trans (b4.mono b3.size)⟩
    · rw [hg3] at c4
      have HF2 := Lib.hid hg3
      clear hg3
      go_wp2_with fail
      refine c4.mono ?_; rintro e w4 ⟨rfl, b4⟩
      go_wp2_with fail
      go_ret2
      exact ⟨_, by rw [HF.out, HF2.out]; rfl, by rw [HR.out, HF2.out]; exact (ow.below b4 (Nat.le_refl _)).mono (Nat.le_refl _) b4.size, b3.trans (b4.mono b3.size)⟩

theorem implArmTimer_any (v : Value) (l : List Tm) (i n e : Int) (w : World) {lo hi : Nat} (h : Rd Tm.cells 4 w lo hi v l) (hh : hi ≤ w.heap.size) :
    Calls Try.prog 25 #[v, .int .i64 i, .int .i64 n, .int .i64 e] w fun r w' => ∃ v', r = .returned (.tuple #[v', .bool (Tm.upOk l i (Tm.arm n e))]) ∧ Ow Tm.cells 4 25 w' w.heap.size w'.heap.size v' (Tm.upR l i (Tm.arm n e)) ∧ (Tm.upR l i (Tm.arm n e)).length ≤ 1048576 ∧ Below w.heap.size w w' := by
  have hlen := Tm.upR_len l i (Tm.arm n e)
  have c1 := fun (w1 : World) (hr : Rd Tm.cells 4 w1 lo hi v l) (hh : hi ≤ w1.heap.size) (B1 B2 : Nat) (h1 : w1.cell? ⟨B1, 0, none⟩ = some (.int .i64 n)) (h2 : w1.cell? ⟨B2, 0, none⟩ = some (.int .i64 e)) (hB1 : B1 < w1.heap.size) (hB2 : B2 < w1.heap.size) =>
    withTimer_any 53 #[.pointer (some ⟨B1, 0, none⟩), .pointer (some ⟨B2, 0, none⟩)] (Tm.arm n e) v l i w1 hr hh (enters Try.func53 (by kernel_rfl) rfl) (fun W b o t hb hbw f0 f1 f2 _ hfz => armClo_any n e w1 h1 h2 hB1 hB2 W b o t hb hbw f0 f1 f2 hfz)
  generalize Tm.upOk l i (Tm.arm n e) = ok at *
  generalize Tm.upR l i (Tm.arm n e) = r at *
  go_enter Try.func25, Try.ntmps25
  go_wp2_with fail
  refine (c1 _ (h.below (((Below.refl w.heap.size w).alloc (Nat.le_refl _) _).alloc (by simp) _) hh) (by simp; omega) w.heap.size (w.heap.size + 1) (by simp) (by simp) (by simp; omega) (by simp)).mono ?_
  rintro q w1 ⟨v', rfl, o1, b1⟩
  go_wp2_with fail
  go_ret2
  exact ⟨v', rfl, o1.mono (by simp; omega) (Nat.le_refl _), hlen, (((Below.refl w.heap.size w).alloc (Nat.le_refl _) _).alloc (by simp) _).trans (b1.mono (by simp; omega))⟩
theorem implDisarmTimer_any (v : Value) (l : List Tm) (i : Int) (w : World) {lo hi : Nat} (h : Rd Tm.cells 4 w lo hi v l) (hh : hi ≤ w.heap.size) :
    Calls Try.prog 29 #[v, .int .i64 i] w fun r w' => ∃ v', r = .returned (.tuple #[v', .bool (Tm.upOk l i Tm.disarm)]) ∧ Ow Tm.cells 4 25 w' w.heap.size w'.heap.size v' (Tm.upR l i Tm.disarm) ∧ (Tm.upR l i Tm.disarm).length ≤ 1048576 ∧ Below w.heap.size w w' := by
  have hlen := Tm.upR_len l i Tm.disarm
  have c1 := withTimer_any 54 #[] Tm.disarm v l i w h hh (enters Try.func54 (by kernel_rfl) rfl) (fun W b o t _ _ f0 f1 _ _ hfz => disarmClo_any W b o t f0 f1 hfz)
  generalize Tm.upOk l i Tm.disarm = ok at *
  generalize Tm.upR l i Tm.disarm = r at *
  go_enter Try.func29, Try.ntmps29
  go_wp2_with fail
  refine c1.mono ?_
  rintro q w1 ⟨v', rfl, o1, b1⟩
  go_wp2_with fail
  go_ret2
  exact ⟨v', rfl, o1, hlen, b1⟩

theorem specArmTimer_any (v : Value) (l : List Tm) (i n e : Int) (w : World) {lo hi : Nat} (h : Rd Tm.cells 4 w lo hi v l) (hh : hi ≤ w.heap.size) :
    Calls Try.prog 24 #[v, .int .i64 i, .int .i64 n, .int .i64 e] w fun r w' => ∃ v', r = .returned (.tuple #[v', .bool (Tm.upOk l i (Tm.arm n e))]) ∧ Rd Tm.cells 4 w' 0 w'.heap.size v' (Tm.upR l i (Tm.arm n e)) ∧ Below w.heap.size w w' := by
  have c1 := l11Has_any v l i w h hh
  have c2 := fun W => l11Tick_any n W
  have c3 := fun W => l11Tick_any e W
  have hrd := h
  obtain ⟨A, m, c, rfl, H, hc, hm⟩ := h.form
  have hok := Tm.armOk l i n e
  cases hb : Tm.hasB l i
  · have HF := Lib.hid (show Tm.upOk l i (Tm.arm n e) = false ∧ Tm.upR l i (Tm.arm n e) = [] from by simp [Tm.upR, hok, hb])
    rw [hb] at c1
    clear hb hok
    go_enter Try.func24, Try.ntmps24
    go_wp2_with fail
    refine c1.mono ?_; rintro q w1 ⟨rfl, b1⟩
    go_wp2_with fail
    go_ret2
    exact ⟨_, by rw [HF.out.1]; rfl, by rw [HF.out.2]; exact Rd.empty (by decide), b1.alloc b1.size _⟩
  · cases h1 : inB n 0 100000
    · have HF := Lib.hid (show Tm.upOk l i (Tm.arm n e) = false ∧ Tm.upR l i (Tm.arm n e) = [] from by simp [Tm.upR, hok, h1])
      rw [hb] at c1
      rw [h1] at c2
      clear hb h1 hok
      go_enter Try.func24, Try.ntmps24
      go_wp2_with fail
      refine c1.mono ?_; rintro q w1 ⟨rfl, b1⟩
      go_wp2_with fail
      refine (c2 _).mono ?_; rintro q w' ⟨rfl, rfl⟩
      go_wp2_with fail
      go_ret2
      exact ⟨_, by rw [HF.out.1]; rfl, by rw [HF.out.2]; exact Rd.empty (by decide), b1.alloc b1.size _⟩
    · cases h2 : inB e 0 100000
      · have HF := Lib.hid (show Tm.upOk l i (Tm.arm n e) = false ∧ Tm.upR l i (Tm.arm n e) = [] from by simp [Tm.upR, hok, h2])
        rw [hb] at c1
        rw [h1] at c2
        rw [h2] at c3
        clear hb h1 h2 hok
        go_enter Try.func24, Try.ntmps24
        go_wp2_with fail
        refine c1.mono ?_; rintro q w1 ⟨rfl, b1⟩
        go_wp2_with fail
        refine (c2 _).mono ?_; rintro q w' ⟨rfl, rfl⟩
        go_wp2_with fail
        refine (c3 _).mono ?_; rintro q w' ⟨rfl, rfl⟩
        go_wp2_with fail
        go_ret2
        exact ⟨_, by rw [HF.out.1]; rfl, by rw [HF.out.2]; exact Rd.empty (by decide), b1.alloc b1.size _⟩
      · obtain ⟨k, t, rfl, hk, ht, hg⟩ := Tm.has_get hb
        have HF := Lib.hid (show Tm.upOk l k (Tm.arm n e) = true ∧ Tm.upR l k (Tm.arm n e) = l.set k (Tm.arm n e t) from by simp [Tm.upR, hok, hb, h1, h2, Tm.up_at ht])
        have hn8 := Tm.good_len hg
        rw [← H.out] at hk hn8
        have HT := Lib.hid ht
        rw [hb] at c1
        rw [h1] at c2
        rw [h2] at c3
        clear hb h1 h2 hok ht hg
        go_enter Try.func24, Try.ntmps24
        go_wp2_with fail
        refine c1.mono ?_; rintro q w1 ⟨rfl, b1⟩
        go_wp2_with fail
        refine (c2 _).mono ?_; rintro q w' ⟨rfl, rfl⟩
        go_wp2_with fail
        refine (c3 _).mono ?_; rintro q w' ⟨rfl, rfl⟩
        obtain ⟨b, off, t', rfl, ht', _, hbl, f0, f1, f2, f3⟩ := Tm.get hrd hk b1 hh
        obtain rfl := Option.some.inj (HT.out.symm.trans ht'.out)
        have hbw1 : b < w1.heap.size := by have := b1.size; omega
        replace hrd := hrd.below b1 hh
        go_wp2_with (at_builtin; refine Tm.app_rd rfl _ _ rfl w.heap.size (.slice (some ⟨w1.heap.size, 0, none⟩) 0 0) 0 [] rfl (World.ownsRow_lit _ #[] 0 b1.size (by decide) rfl) rfl (hrd.below (Below.alloc (Below.refl _ _) (Nat.le_refl _) _) (Nat.le_trans hh b1.size)) (by omega) (by have := b1.size; simp; omega) ?_; intro v2 w2 hown hg2; obtain ⟨g2, cap, rfl, hgb, hgl⟩ := hown.form (by omega); have hfz := hown.frozenAt; have ow := Ow.of_own Tm.cells_len hown (l := l) (by simp) (by rw [← H.out]; omega); rw [Nat.zero_add] at ow; obtain ⟨_, _, t', e, ht', _, hgl', g0, g1, g2', g3⟩ := Tm.get ow.rd hk (Below.refl w2.heap.size w2) (Nat.le_refl _); injection e with e; injection e with e1 e2; subst e1; subst e2; simp only [Nat.zero_add] at g0 g1 g2' g3; have b2 : Below w.heap.size w w2 := ((b1.alloc b1.size _).grown hg2 (by have := b1.size; simp; omega) (by intro j hj; simp [Value.ownBlock] at hj; have := b1.size; omega)); have f3' := (hg2.cell (a := ⟨b, _, none⟩) (by rw [World.cell?_alloc_lt _ _ _ hbw1]; exact f3) (by simp [Value.ownBlock]; omega)); clear hown hg2)
        go_ret2
        generalize hw : World.setCell _ _ _ = w3
        obtain rfl : w3 = setL w2 g2 (k * 4) (Tm.arm n e t).cells := hw.symm
        clear hw
        refine ⟨_, by rw [HF.out.1]; rfl, ?_, setL_below b2 (Tm.arm n e t).cells g2 (k * 4) hgb⟩
        have hu : Upd 25 4 w2 (setL w2 g2 (0 + k * 4) (Tm.arm n e t).cells) g2 (0 + k * 4) t.cells (Tm.arm n e t).cells := Upd.of_setL 0 (ys := (Tm.arm n e t).cells) rfl rfl (by simp [Tm.cells])
        have o3 := ow.upd Tm.cells_len (by omega) HT.out hu
        rw [Nat.zero_add] at o3
        rw [HF.out.2]
        exact o3.rd.mono (Nat.zero_le _) (Nat.le_of_eq (setL_size _ w2 g2 (k * 4)).symm)
theorem specDisarmTimer_any (v : Value) (l : List Tm) (i : Int) (w : World) {lo hi : Nat} (h : Rd Tm.cells 4 w lo hi v l) (hh : hi ≤ w.heap.size) :
    Calls Try.prog 28 #[v, .int .i64 i] w fun r w' => ∃ v', r = .returned (.tuple #[v', .bool (Tm.upOk l i Tm.disarm)]) ∧ Rd Tm.cells 4 w' 0 w'.heap.size v' (Tm.upR l i Tm.disarm) ∧ Below w.heap.size w w' := by
  have c1 := l11Has_any v l i w h hh
  have hrd := h
  obtain ⟨A, m, c, rfl, H, hc, hm⟩ := h.form
  have hok := Tm.disarmOk l i
  cases hb : Tm.hasB l i
  · have HF := Lib.hid (show Tm.upOk l i Tm.disarm = false ∧ Tm.upR l i Tm.disarm = [] from by simp [Tm.upR, hok, hb])
    rw [hb] at c1
    clear hb hok
    go_enter Try.func28, Try.ntmps28
    go_wp2_with fail
    refine c1.mono ?_; rintro q w1 ⟨rfl, b1⟩
    go_wp2_with fail
    go_ret2
    exact ⟨_, by rw [HF.out.1]; rfl, by rw [HF.out.2]; exact Rd.empty (by decide), b1.alloc b1.size _⟩
  · obtain ⟨k, t, rfl, hk, ht, hg⟩ := Tm.has_get hb
    have HF := Lib.hid (show Tm.upOk l k Tm.disarm = true ∧ Tm.upR l k Tm.disarm = l.set k (Tm.disarm t) from by simp [Tm.upR, hok, hb, Tm.up_at ht])
    have hn8 := Tm.good_len hg
    rw [← H.out] at hk hn8
    have HT := Lib.hid ht
    rw [hb] at c1
    clear hb hok ht hg
    go_enter Try.func28, Try.ntmps28
    go_wp2_with fail
    refine c1.mono ?_; rintro q w1 ⟨rfl, b1⟩
    obtain ⟨b, off, t', rfl, ht', _, hbl, f0, f1, f2, f3⟩ := Tm.get hrd hk b1 hh
    obtain rfl := Option.some.inj (HT.out.symm.trans ht'.out)
    have hbw1 : b < w1.heap.size := by have := b1.size; omega
    replace hrd := hrd.below b1 hh
    go_wp2_with (at_builtin; refine Tm.app_rd rfl _ _ rfl w.heap.size (.slice (some ⟨w1.heap.size, 0, none⟩) 0 0) 0 [] rfl (World.ownsRow_lit _ #[] 0 b1.size (by decide) rfl) rfl (hrd.below (Below.alloc (Below.refl _ _) (Nat.le_refl _) _) (Nat.le_trans hh b1.size)) (by omega) (by have := b1.size; simp; omega) ?_; intro v2 w2 hown hg2; obtain ⟨g2, cap, rfl, hgb, hgl⟩ := hown.form (by omega); have hfz := hown.frozenAt; have ow := Ow.of_own Tm.cells_len hown (l := l) (by simp) (by rw [← H.out]; omega); rw [Nat.zero_add] at ow; obtain ⟨_, _, t', e, ht', _, hgl', g0, g1, g2', g3⟩ := Tm.get ow.rd hk (Below.refl w2.heap.size w2) (Nat.le_refl _); injection e with e; injection e with e1 e2; subst e1; subst e2; simp only [Nat.zero_add] at g0 g1 g2' g3; have b2 : Below w.heap.size w w2 := ((b1.alloc b1.size _).grown hg2 (by have := b1.size; simp; omega) (by intro j hj; simp [Value.ownBlock] at hj; have := b1.size; omega)); have f3' := (hg2.cell (a := ⟨b, _, none⟩) (by rw [World.cell?_alloc_lt _ _ _ hbw1]; exact f3) (by simp [Value.ownBlock]; omega)); have f2' := (hg2.cell (a := ⟨b, _, none⟩) (by rw [World.cell?_alloc_lt _ _ _ hbw1]; exact f2) (by simp [Value.ownBlock]; omega)); clear hown hg2)
    have hbg : b < g2 := by omega
    go_region
    go_wp2_with fail
    go_ret2
    generalize hw : World.setCell _ _ _ = w3
    obtain rfl : w3 = setL w2 g2 (k * 4) (Tm.disarm t).cells := hw.symm
    clear hw
    refine ⟨_, by rw [HF.out.1]; rfl, ?_, (setL_below b2 (Tm.disarm t).cells g2 (k * 4) hgb).drew⟩
    have hu : Upd 25 4 w2 (setL w2 g2 (0 + k * 4) (Tm.disarm t).cells) g2 (0 + k * 4) t.cells (Tm.disarm t).cells := Upd.of_setL 0 (ys := (Tm.disarm t).cells) rfl rfl (by simp [Tm.cells])
    have o3 := ow.upd Tm.cells_len (by omega) HT.out hu
    rw [Nat.zero_add] at o3
    rw [HF.out.2]
    exact (o3.rd.mono (Nat.zero_le _) (size_drew_le (setL_size_le (Nat.le_refl _)))).drew

end Go.Proofs.Ytmblpgocgkfjcaa
