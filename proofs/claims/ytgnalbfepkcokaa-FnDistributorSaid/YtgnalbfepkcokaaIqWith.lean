/- Changing one interrupt of a list, in the program and in the reference. No condition. -/
import Derived.Test.YtgnalbfepkcokaaIq
import Derived.Test.YtgnalbfepkcokaaBase3
import Derived.Test.YtgnalbfepkcokaaTyInt
namespace Go.Proofs.Ytgnalbfepkcokaa
open Go.RowKit Go.ChangeShapes Go.WideShapes Go.Deep

/-- the list in which interrupt i is changed by f -/
def Iq.up (l : List Iq) (i : Int) (f : Iq → Iq) : List Iq := l.set i.toNat (f (l.getD i.toNat default))
def Iq.upOk (l : List Iq) (i : Int) (f : Iq → Iq) : Bool := Iq.asked l i && Iq.good (Iq.up l i f)
def Iq.upR (l : List Iq) (i : Int) (f : Iq → Iq) : List Iq := if Iq.upOk l i f then Iq.up l i f else []
theorem Iq.upR_len (l : List Iq) (i : Int) (f : Iq → Iq) : (Iq.upR l i f).length ≤ 1048576 := by
  unfold Iq.upR
  split
  · rename_i h
    simp only [Iq.upOk, Bool.and_eq_true] at h
    have := Iq.good_len h.2
    omega
  · simp
theorem Iq.asked_get {l : List Iq} {i : Int} (h : Iq.asked l i = true) : ∃ (k : Nat) (t : Iq), i = k ∧ k ≤ 7 ∧ k < l.length ∧ l[k]? = some t ∧ Iq.good l = true := by
  simp only [Iq.asked, Bool.and_eq_true] at h
  have := inB_true h.2
  obtain ⟨k, rfl⟩ := Int.eq_ofNat_of_zero_le this.1
  have hl := Iq.good_len h.1
  have hk : k < l.length := by omega
  exact ⟨k, l[k], rfl, by omega, hk, List.getElem?_eq_getElem _, h.1⟩
theorem Iq.up_at {l : List Iq} {k : Nat} {t : Iq} (ht : l[k]? = some t) (f : Iq → Iq) : Iq.up l (k : Int) f = l.set k (f t) := by
  simp [Iq.up, ht]

set_option maxHeartbeats 1000000 in
theorem l6With_any (v : Value) (l : List Iq) (k : Nat) (x : Iq) (w : World) {lo hi : Nat} (h : Rd Iq.cells 5 w lo hi v l) (hh : hi ≤ w.heap.size) (hk : k < l.length) (hlen : l.length ≤ 1048576) :
    Calls Try.prog 105 #[v, .int .i64 k, x.val] w fun e w' => ∃ v', e = .returned v' ∧ Ow Iq.cells 5 62 w' w.heap.size w'.heap.size v' (l.set k x) ∧ Below w.heap.size w w' := by
  have hrd := h
  obtain ⟨A, n, c, rfl, H, hc, hm⟩ := h.form
  rw [← H.out] at hk hlen
  have HT := Lib.hid (show l[k]? = some (l[k]'(by rw [← H.out]; exact hk)) from List.getElem?_eq_getElem _)
  generalize l[k]'(by rw [← H.out]; exact hk) = t at HT
  have b1 := (Below.refl w.heap.size w).alloc (Nat.le_refl _) (.cells #[.bool x.enabled, .bool x.pending, .bool x.active, .int .i64 x.prio, .int .i64 x.target] 62)
  have bcells : ∀ j u, (#[.bool x.enabled, .bool x.pending, .bool x.active, .int .i64 x.prio, .int .i64 x.target] : Array Value)[j]? = some u → (w.alloc (.cells #[.bool x.enabled, .bool x.pending, .bool x.active, .int .i64 x.prio, .int .i64 x.target] 62)).cell? ⟨w.heap.size, j, none⟩ = some u := fun j u hu => cell_new w _ _ rfl hu
  have HB := Lib.hid bcells
  have z1 : (w.alloc (.cells #[.bool x.enabled, .bool x.pending, .bool x.active, .int .i64 x.prio, .int .i64 x.target] 62)).heap.size = w.heap.size + 1 := by simp
  clear bcells h
  unfold Iq.val
  go_enter Try.func105, Try.ntmps105
  go_wp2_with (at_builtin; (refine Iq.app_rd rfl _ _ rfl w.heap.size (.slice (some ⟨w.heap.size + 1, 0, none⟩) 0 0) 0 [] rfl (own_empty_at (w.alloc (.cells #[.bool x.enabled, .bool x.pending, .bool x.active, .int .i64 x.prio, .int .i64 x.target] 62)) (base := w.heap.size) (g := w.heap.size + 1) 62 5 z1.symm (by omega)) rfl ((hrd.below b1 hh).below ((Below.refl _ _).alloc (Nat.le_refl _) _) (by omega)) (by omega) (by simp; omega) ?_); (intro v2 w2 hown hg2); (obtain ⟨g2, cap, rfl, hgb, hgl⟩ := hown.form (by omega)); (have hfz := hown.frozenAt); (have ow := Ow.of_own Iq.cells_len hown (l := l) (by simp) (by rw [← H.out]; omega)); (rw [Nat.zero_add] at ow); (obtain ⟨_, _, t', e, ht', _, hgl', q0, q1, q2, q3, q4⟩ := Iq.get ow.rd hk (Below.refl w2.heap.size w2) (Nat.le_refl _)); (injection e with e); (injection e with e1 e2); (subst e1); (subst e2); (simp only [Nat.zero_add] at q0 q1 q2 q3 q4); (have b2 : Below w.heap.size w w2 := ((b1.alloc b1.size _).grown hg2 (by have := b1.size; simp; omega) (by intro j hj; simp [Value.ownBlock] at hj; have := b1.size; omega))); (have bx : ∀ j u, (#[.bool x.enabled, .bool x.pending, .bool x.active, .int .i64 x.prio, .int .i64 x.target] : Array Value)[j]? = some u → w2.cell? ⟨w.heap.size, j, none⟩ = some u := fun j u hu => hg2.cell (a := ⟨w.heap.size, j, none⟩) (by rw [World.cell?_alloc_lt _ _ _ (by simp)]; exact HB.out j u hu) (by simp [Value.ownBlock])); (have k0 := bx 0 _ rfl); (have k1 := bx 1 _ rfl); (have k2 := bx 2 _ rfl); (have k3 := bx 3 _ rfl); (have k4 := bx 4 _ rfl); (clear hown hg2 bx))
  go_ret
  generalize hw : World.setCell _ _ _ = w3
  obtain rfl : w3 = setL w2 g2 (k * 5) x.cells := hw.symm
  clear hw
  refine ⟨_, rfl, ?_, setL_below b2 x.cells g2 (k * 5) hgb⟩
  have hu : Upd 62 5 w2 (setL w2 g2 (0 + k * 5) x.cells) g2 (0 + k * 5) t.cells x.cells := Upd.of_setL 0 (ys := x.cells) rfl rfl (by simp [Iq.cells])
  have o3 := ow.upd Iq.cells_len (by omega) HT.out hu
  rw [Nat.zero_add] at o3
  exact o3.mono (Nat.le_refl _) (Nat.le_of_eq (setL_size _ w2 g2 (k * 5)).symm)


theorem withIrq_any (g : FuncId) (lb : Array Value) (f : Iq → Iq) (v : Value) (l : List Iq) (i : Int) (w : World) {lo hi : Nat} (h : Rd Iq.cells 5 w lo hi v l) (hh : hi ≤ w.heap.size)
    (eg : ∀ args w, (callFunc g args).run Try.prog w = .ok (.enter g args) w)
    (hf : ∀ (W : World) (b o : Nat) (t : Iq), Below w.heap.size w W → w.heap.size ≤ b → W.cell? ⟨b, o, none⟩ = some (.bool t.enabled) → W.cell? ⟨b, o + 1, none⟩ = some (.bool t.pending) → W.cell? ⟨b, o + 2, none⟩ = some (.bool t.active) → W.cell? ⟨b, o + 3, none⟩ = some (.int .i64 t.prio) → W.cell? ⟨b, o + 4, none⟩ = some (.int .i64 t.target) → (∀ j, W.frozen? ⟨b, j, none⟩ = false) →
      Calls Try.prog g (#[.pointer (some ⟨b, o, none⟩)] ++ lb) W fun r w' => r = .returned (.tuple #[]) ∧ Upd 62 5 W w' b o t.cells (f t).cells) :
    Calls Try.prog 101 #[v, .int .i64 i, .func (.func g) #[] lb] w fun e w' => ∃ v', e = .returned (.tuple #[v', .bool (Iq.upOk l i f)]) ∧ Ow Iq.cells 5 62 w' w.heap.size w'.heap.size v' (Iq.upR l i f) ∧ Below w.heap.size w w' := by
  have c1 := implAreIrqs_any v l w h hh
  have hrd := h
  obtain ⟨A, n, c, rfl, H, hc, hm⟩ := h.form
  have c2 := fun W => isIrq_any i W
  have HP := Lib.hid hf
  clear hf
  cases hb : Iq.asked l i
  · have HF := Lib.hid (show Iq.upOk l i f = false ∧ Iq.upR l i f = [] from by simp [Iq.upR, Iq.upOk, hb])
    have HG := Lib.hid (show (Iq.good l && inB i 0 7) = false from hb)
    clear hb
    generalize Iq.good l = b1 at c1 HG
    cases b1
    · go_enter Try.func101, Try.ntmps101
      go_wp2_with (first | (go_at_call 56; refine c1.mono ?_; rintro e w1 ⟨rfl, b1⟩) | (go_at_call 71; refine (c2 _).mono ?_; rintro e w' ⟨rfl, rfl⟩))
      go_ret2
      exact ⟨_, by rw [HF.out.1]; rfl, by rw [HF.out.2]; exact Ow.nil_, b1⟩
    · have hg := HG.out
      rw [Bool.true_and] at hg
      rw [hg] at c2
      clear hg
      go_enter Try.func101, Try.ntmps101
      go_wp2_with (first | (go_at_call 56; refine c1.mono ?_; rintro e w1 ⟨rfl, b1⟩) | (go_at_call 71; refine (c2 _).mono ?_; rintro e w' ⟨rfl, rfl⟩))
      go_ret2
      exact ⟨_, by rw [HF.out.1]; rfl, by rw [HF.out.2]; exact Ow.nil_, b1⟩
  · obtain ⟨k, t, rfl, hk7, hk, ht, hg⟩ := Iq.asked_get hb
    have hin : inB (k : Int) 0 7 = true := by rw [inB_iff]; omega
    have hn8 := Iq.good_len hg
    rw [← H.out] at hk hn8
    replace hn8 : n ≤ 8 := by omega
    rw [hg] at c1
    rw [hin] at c2
    have HF := Lib.hid (show Iq.upOk l k f = Iq.good (l.set k (f t)) from by simp [Iq.upOk, hb, Iq.up_at ht])
    have HR := Lib.hid (show Iq.upR l k f = if Iq.good (l.set k (f t)) then l.set k (f t) else [] from by simp [Iq.upR, Iq.upOk, hb, Iq.up_at ht])
    have HT := Lib.hid ht
    clear hb hg hin ht
    go_enter Try.func101, Try.ntmps101
    go_wp2_with fail
    refine c1.mono ?_; rintro e w1 ⟨rfl, b1⟩
    go_wp2_with fail
    refine (c2 _).mono ?_; rintro e w' ⟨rfl, rfl⟩
    replace hrd := hrd.below b1 hh
    go_wp2_with (at_builtin; refine Iq.app_rd rfl _ _ rfl w.heap.size (.slice (some ⟨w1.heap.size, 0, none⟩) 0 0) 0 [] rfl (World.ownsRow_lit _ #[] 0 b1.size (by decide) rfl) rfl (hrd.below (Below.alloc (Below.refl _ _) (Nat.le_refl _) _) (Nat.le_trans hh b1.size)) (by omega) (by have := b1.size; simp; omega) ?_; intro v2 w2 hown hg2; obtain ⟨g2, cap, rfl, hgb, hgl⟩ := hown.form (by omega); have hfz := hown.frozenAt; have ow := Ow.of_own Iq.cells_len hown (l := l) (by simp) (by rw [← H.out]; omega); rw [Nat.zero_add] at ow; obtain ⟨_, _, t', e, ht', _, hgl', f0, f1, f2, f3, f4⟩ := Iq.get ow.rd hk (Below.refl w2.heap.size w2) (Nat.le_refl _); injection e with e; injection e with e1 e2; subst e1; subst e2; obtain rfl := Option.some.inj (HT.out.symm.trans ht'.out); clear hown)
    simp only [Nat.zero_add] at f0 f1 f2 f3 f4
    have b2 : Below w.heap.size w w2 := (b1.alloc b1.size _).grown hg2 (by have := b1.size; simp; omega) (by intro j hj; simp [Value.ownBlock] at hj; have := b1.size; omega)
    clear hg2
    refine (HP.out w2 g2 (k * 5) t b2 hgb f0 f1 f2 f3 f4 hfz).mono ?_; rintro e w3 ⟨rfl, hu⟩
    replace ow := ow.upd Iq.cells_len (by omega) HT.out (by rw [Nat.zero_add]; exact hu)
    have s3 := hu.1.size
    have b3 : Below w.heap.size w w3 := b2.grown hu.1 b2.size (by rintro j ⟨⟩; exact hgb)
    have c4 := implAreIrqs_any _ _ w3 ow.rd s3
    replace ow := ow.mono (Nat.le_refl _) s3
    clear f0 f1 f2 f3 f4 hfz hu b2
    cases hg3 : Iq.good (l.set k (f t))
    · rw [hg3] at c4
      have HF2 := Lib.hid hg3
      clear hg3
      go_wp2_with fail
      refine c4.mono ?_; rintro e w4 ⟨rfl, b4⟩
      go_wp2_with fail
      go_ret2
      exact ⟨_, by rw [HF.out, HF2.out]; rfl, by rw [HR.out, HF2.out]; exact Ow.nil_, b3.trans (b4.mono b3.size)⟩
    · rw [hg3] at c4
      have HF2 := Lib.hid hg3
      clear hg3
      go_wp2_with fail
      refine c4.mono ?_; rintro e w4 ⟨rfl, b4⟩
      go_wp2_with fail
      go_ret2
      exact ⟨_, by rw [HF.out, HF2.out]; rfl, by rw [HR.out, HF2.out]; exact (ow.below b4 (Nat.le_refl _)).mono (Nat.le_refl _) b4.size, b3.trans (b4.mono b3.size)⟩


end Go.Proofs.Ytgnalbfepkcokaa
