/- Lemmas and walks that the last text of this claim leans on, part 2. No condition. -/
import Derived.Test.YtndfmkbpdoohfaaGreatMcFoA
/- The active interrupts, in the program and in the reference. No condition. -/
namespace Go.Proofs.YtndfmkbpdoohfaaGreat
open Go.RowKit Go.ChangeShapes Go.WideShapes Go.Deep

theorem asc_at {l : List Int} (h : l.Pairwise (· < ·)) {i j : Nat} {a b : Int} (hi : l[i]? = some a) (hj : l[j]? = some b) (hij : i < j) : a < b := by
 obtain ⟨h1, rfl⟩ := List.getElem?_eq_some_iff.1 hi
 obtain ⟨h2, rfl⟩ := List.getElem?_eq_some_iff.1 hj
 exact List.pairwise_iff_getElem.1 h i j h1 h2 hij
theorem insK_put {l : List Int} {x : Int} (h : l.Pairwise (· < ·)) (hx : x ∉ l) : insK ltI l x = putL x l := by
 have hle := lead_le x l
 have hbk : bk ltI x l = lead x l := bk_eq x l (lead x l) hle (fun j y hj hy => by
  have hne : y ≠ x := fun e => hx (e ▸ List.mem_of_getElem? hy)
  have h0 : l[lead x l]? = some (l[lead x l]'(by have := (List.getElem?_eq_some_iff.1 hy).1; omega)) := List.getElem?_eq_getElem _
  have hne0 : l[lead x l]'(by have := (List.getElem?_eq_some_iff.1 hy).1; omega) ≠ x := fun e => hx (e ▸ List.getElem_mem _)
  have h1 := lead_at x l _ _ (Nat.le_refl _) h0
  rw [ltI, decide_eq_true_eq]
  rcases Nat.eq_or_lt_of_le hj with h2 | h2
  ·subst h2
   have := Option.some.inj (h0.symm.trans hy)
   omega
  ·have := asc_at h h0 hy h2
   omega) (fun j y hj hy => by
  have := (lead_at x l j y (by omega) hy).2 (by omega)
  rw [ltI, decide_eq_false_iff_not]; omega)
 rw [insK, hbk, putL]
theorem foldIns_asc : ∀ (xs acc : List Int), acc.Pairwise (· < ·) → xs.Nodup → (∀ x ∈ xs, x ∉ acc) → (xs.foldl (insK ltI) acc).Pairwise (· < ·)
 | [], acc, h, _, _ => h
 | x :: xs, acc, h, hn, hd => by
  rw [List.nodup_cons] at hn
  have hx := hd x (by simp)
  rw [List.foldl_cons, insK_put h hx]
  refine foldIns_asc xs _ (putL_asc x acc h hx) hn.2 (fun y hy hm => ?_)
  rcases (mem_putL x y acc).1 hm with rfl | hm
  ·exact hn.1 hy
  ·exact hd y (List.mem_cons_of_mem _ hy) hm
theorem sortK_asc {xs : List Int} (h : xs.Nodup) : (sortK ltI xs).Pairwise (· < ·) := foldIns_asc xs [] List.Pairwise.nil h (fun _ _ h => by simp at h)

def Sl.isAct (s : Sl) : Bool := s.state == 2 || s.state == 3
def Sl.acts (l : List Sl) : List Int := (l.filter Sl.isAct).map Sl.irq
def Sl.active (l : List Sl) : List Int := accL Sl.isAct Sl.irq l
theorem Sl.acts_pre {l : List Sl} {k : Nat} {s : Sl} (h : l[k]? = some s) : Sl.acts (l.take (k + 1)) = Sl.acts (l.take k) ++ if Sl.isAct s then [s.irq] else [] := by
 rw [List.take_add_one, h, Sl.acts, Sl.acts, List.filter_append, List.map_append]
 congr 1
 cases hq : Sl.isAct s <;> simp [hq]
theorem Sl.acts_nodup {l : List Sl} (hg : Sl.good l = true) : (Sl.acts l).Nodup := by
 unfold Sl.acts List.Nodup
 rw [List.pairwise_map, List.pairwise_filter]
 rw [List.pairwise_iff_getElem]
 intro i j hi hj hij ha hb
 refine Sl.good_ne hg hij (List.getElem?_eq_getElem hi) (List.getElem?_eq_getElem hj) ?_ ?_
 ·intro h0; simp [Sl.isAct, h0] at ha
 ·intro h0; simp [Sl.isAct, h0] at hb
theorem Sl.active_eq {l : List Sl} (hg : Sl.good l = true) : sortK ltI (Sl.acts l) = Sl.active l := by
 refine asc_ext _ _ (sortK_asc (Sl.acts_nodup hg)) (accL_asc _ _ _) (fun x => ?_)
 rw [sortK_mem, Sl.active, accL_mem]
 simp [Sl.acts, and_assoc]
theorem Sl.active_new {l : List Sl} (hg : Sl.good l = true) {k : Nat} {s : Sl} (h : l[k]? = some s) (ha : Sl.isAct s = true) : s.irq ∉ Sl.active (l.take k) := by
 intro hm
 rw [Sl.active, accL_mem] at hm
 obtain ⟨u, hu, h1, h2⟩ := hm
 obtain ⟨j, hj⟩ := List.getElem?_of_mem hu
 rw [List.getElem?_take] at hj
 split at hj
 ·rename_i hjk
  refine Sl.good_ne hg hjk hj h ?_ ?_ h2
  ·intro h0; simp [Sl.isAct, h0] at h1
  ·intro h0; simp [Sl.isAct, h0] at ha
 ·cases hj
set_option maxHeartbeats 1000000 in
theorem l8Active_any (v : Value) (l : List Sl) (w : World) {lo hi : Nat} (h : Rd Sl.cells 3 w lo hi v l) (hh : hi ≤ w.heap.size) (hg : Sl.good l = true) :
  Calls Tryz.prog 72 #[v] w fun e w' => ∃ v', e = .returned v' ∧ Rd Nm.cells 1 w' w.heap.size w'.heap.size v' (Sl.active l) ∧ Below w.heap.size w w' := by
 have hrd := h
 obtain ⟨A, n, c, rfl, H, hc, hm⟩ := h.form
 have hn4 : n ≤ 4 := by rw [H.out, Sl.good_len hg]; decide
 have HG := Lib.hid hg
 clear hg h
 go_enter Tryz.func72, Tryz.ntmps72
 go_wp2_with fail
 have hb0 := (Below.refl w.heap.size w).alloc (Nat.le_refl _) (.cells #[] 3)
 have hf0 : Rd Nm.cells 1 (w.alloc (.cells #[] 3)) w.heap.size (w.alloc (.cells #[] 3)).heap.size (.slice (some ⟨w.heap.size, 0, none⟩) 0 0) [] := Rd.empty (by decide)
 generalize w.alloc _ = w1 at hf0 hb0 ⊢
 go_loopw [3, 4] (fun q i wr => ∃ k : Nat, k ≤ n ∧ i = .int .i64 k ∧ Below w.heap.size w wr ∧ Rd Nm.cells 1 wr w.heap.size wr.heap.size q (Sl.active (l.take k))) (fun _ i _ => n - (intOf i).toNat)
 case atStart => exact ⟨0, Nat.zero_le _, rfl, hb0, hf0⟩
 case round =>
  clear hf0 hb0
  obtain ⟨k, hk, rfl, hb, hf⟩ := hrel
  by_cases hlt : k < n
  ·obtain ⟨b, off, s, rfl, hs, _, hbl, f0, f1, f2⟩ := Sl.get hrd hlt hb hh
   have hP : Sl.active (l.take (k + 1)) = if Sl.isAct s && !(Sl.active (l.take k)).contains s.irq then putL s.irq (Sl.active (l.take k)) else Sl.active (l.take k) := accL_pre Sl.isAct Sl.irq hs.out
   have hl6 : (Sl.active (l.take k)).length ≤ 1048576 := by
    have := accL_len Sl.isAct Sl.irq (l.take k)
    rw [List.length_take] at this
    unfold Sl.active; omega
   have hstep : Sl.isAct s = true → Hid (Sl.active (l.take (k + 1)) = putL s.irq (Sl.active (l.take k))) ∧ (Calls Tryz.prog 99 #[u3, .int .i64 s.irq] wr fun e w' => ∃ v', e = .returned v' ∧ Ow Nm.cells 1 3 w' wr.heap.size w'.heap.size v' (putL s.irq (Sl.active (l.take k))) ∧ Below wr.heap.size wr w') := fun ha => by
    have hn := Sl.active_new HG.out hs.out ha
    exact ⟨Lib.hid (by rw [hP, ha]; simp [hn]), l1Put_any u3 _ s.irq wr hf (Nat.le_refl _) hn hl6⟩
   by_cases h2 : s.state = 2
   ·obtain ⟨HF, c1⟩ := hstep (by simp [Sl.isAct, h2])
    rw [h2] at f0
    clear h2 hP hstep
    go_wp2_with fail
    refine c1.mono ?_; rintro e w2 ⟨v', rfl, o1, b1⟩
    go_wp2_with fail
    go_roundw
    case rel => exact ⟨k + 1, by omega, by go_num, hb.trans (b1.mono hb.size), by rw [HF.out]; exact o1.rd.mono hb.size (Nat.le_refl _)⟩
    case measure => simp [intOf]; omega
   ·by_cases h3 : s.state = 3
    ·obtain ⟨HF, c1⟩ := hstep (by simp [Sl.isAct, h3])
     rw [h3] at f0
     clear h2 h3 hP hstep
     go_wp2_with fail
     refine c1.mono ?_; rintro e w2 ⟨v', rfl, o1, b1⟩
     go_wp2_with fail
     go_roundw
     case rel => exact ⟨k + 1, by omega, by go_num, hb.trans (b1.mono hb.size), by rw [HF.out]; exact o1.rd.mono hb.size (Nat.le_refl _)⟩
     case measure => simp [intOf]; omega
    ·have HF := Lib.hid (show Sl.active (l.take (k + 1)) = Sl.active (l.take k) from by rw [hP]; simp [Sl.isAct, h2, h3])
     clear hP hstep
     go_wp2_with fail
     go_roundw
     case rel => exact ⟨k + 1, by omega, by go_num, hb, by rw [HF.out]; exact hf⟩
     case measure => simp [intOf]; omega
  ·have hkl : l.take k = l := List.take_of_length_le (by rw [← H.out]; omega)
   rw [hkl] at hf
   go_wp2_with fail
   go_ret
   exact ⟨_, rfl, hf, hb⟩
set_option maxHeartbeats 1000000 in
theorem activeIrqs_any (v : Value) (l : List Sl) (w : World) {lo hi : Nat} (h : Rd Sl.cells 3 w lo hi v l) (hh : hi ≤ w.heap.size) (hg : Sl.good l = true) :
  Calls Tryz.prog 43 #[v] w fun e w' => ∃ v', e = .returned v' ∧ Ow Nm.cells 1 3 w' w.heap.size w'.heap.size v' (Sl.active l) ∧ Below w.heap.size w w' := by
 have hrd := h
 obtain ⟨A, n, c, rfl, H, hc, hm⟩ := h.form
 have hn4 : n ≤ 4 := by rw [H.out, Sl.good_len hg]; decide
 have HE := Lib.hid (Sl.active_eq hg)
 clear hg h
 go_enter Tryz.func43, Tryz.ntmps43
 go_wp2_with fail
 have hb0 := (Below.refl w.heap.size w).alloc (Nat.le_refl _) (.cells #[] 3)
 have hf0 := own_empty w (base := w.heap.size) 3 1 (Nat.le_refl _)
 generalize w.alloc _ = w1 at hf0 hb0 ⊢
 go_loopw [3, 9] (fun q i wr => ∃ (k m : Nat), k ≤ n ∧ i = .int .i64 k ∧ Hid (m = (Sl.acts (l.take k)).length) ∧ m ≤ k ∧ Below w.heap.size w wr ∧ wr.ownsRow w.heap.size 3 1 q m ((Sl.acts (l.take k)).flatMap Nm.cells)) (fun _ i _ => n - (intOf i).toNat)
 case atStart => exact ⟨0, 0, Nat.zero_le _, rfl, Lib.hid rfl, Nat.le_refl _, hb0, hf0⟩
 case round =>
  clear hf0 hb0
  obtain ⟨k, m, hk, rfl, HM, hmk, hb, hf⟩ := hrel
  have hbs := hb.size
  by_cases hlt : k < n
  ·obtain ⟨b, off, s, rfl, hs, _, hbl, f0, f1, f2⟩ := Sl.get hrd hlt hb hh
   have hP := Sl.acts_pre hs.out
   have c1 := fun W => isActive_at s.state s.irq s.prio W
   have hrfl : Sl.isAct s = (s.state == 2 || s.state == 3) := rfl
   rw [← hrfl] at c1
   clear hrfl
   cases hq : Sl.isAct s
   ·have HF := Lib.hid (show Sl.acts (l.take (k + 1)) = Sl.acts (l.take k) from by rw [hP, hq]; simp)
    rw [hq] at c1
    clear hP hq
    go_wp2_with fail
    refine (c1 _).mono ?_; rintro e w2 ⟨rfl, b2⟩
    have hf2 := (hf.alloc (.cells #[.int .i64 s.state, .int .i64 s.irq, .int .i64 s.prio] 93)).kept (World.grownBy.mk b2.os b2.tape b2.output b2.size (fun k hk _ => b2.block k hk) : (wr.alloc (.cells #[.int .i64 s.state, .int .i64 s.irq, .int .i64 s.prio] 93)).grownBy w2 none) (by cases hv : u3.ownBlock <;> simp)
    have hb2 := (hb.alloc hb.size (.cells #[.int .i64 s.state, .int .i64 s.irq, .int .i64 s.prio] 93)).trans (b2.mono (by simp; omega))
    go_wp2_with fail
    go_roundw
    case rel => exact ⟨k + 1, m, by omega, by go_num, Lib.hid (by rw [HF.out, HM.out]), by omega, hb2, by rw [HF.out]; exact hf2⟩
    case measure => simp [intOf]; omega
   ·have HF := Lib.hid (show Sl.acts (l.take (k + 1)) = Sl.acts (l.take k) ++ [s.irq] from by rw [hP, hq]; simp)
    rw [hq] at c1
    clear hP hq
    go_wp2_with fail
    refine (c1 _).mono ?_; rintro e w2 ⟨rfl, b2⟩
    have g1 : w2.cell? ⟨wr.heap.size, 1, none⟩ = some (.int .i64 s.irq) := (b2.cell (p := ⟨wr.heap.size, 1, none⟩) (by simp)).trans (by simp)
    have hf2 := (hf.alloc (.cells #[.int .i64 s.state, .int .i64 s.irq, .int .i64 s.prio] 93)).kept (World.grownBy.mk b2.os b2.tape b2.output b2.size (fun k hk _ => b2.block k hk) : (wr.alloc (.cells #[.int .i64 s.state, .int .i64 s.irq, .int .i64 s.prio] 93)).grownBy w2 none) (by cases hv : u3.ownBlock <;> simp)
    have hb2 := (hb.alloc hb.size (.cells #[.int .i64 s.state, .int .i64 s.irq, .int .i64 s.prio] 93)).trans (b2.mono (by simp; omega))
    have hz2 := hb2.size
    clear b2 c1
    go_wp2_with (at_builtin; (refine Nm.app_one rfl _ _ rfl w.heap.size u3 m _ rfl (hf2.alloc _) (g := w2.heap.size) (c := 1) s.irq rfl ?hc0 (by omega) (by simp <;> omega) ?_); (rotate_left); (intro v3 w3 hf3 hg3))
    go_roundw
    case rel =>
     refine ⟨k + 1, m + 1, by omega, by go_num, Lib.hid (by rw [HF.out, List.length_append, HM.out]; rfl), by omega, (hb2.alloc hb2.size _).grown hg3 (by simp <;> omega) (fun j hj => (hf2.lt j hj).1), ?_⟩
     rw [HF.out, List.flatMap_append]
     exact hf3
    case measure => simp [intOf]; omega
    case hc0 =>
     intro j u hu
     simpa [Nm.cells] using hu
  ·have hkl : l.take k = l := List.take_of_length_le (by rw [← H.out]; omega)
   rw [hkl] at hf HM
   have ow := Ow.of_own Nm.cells_len hf rfl HM.out
   have c2 := sortInts_any w u3 _ (by rw [← HM.out]; omega) wr hb ow (Nat.le_refl _)
   rw [HE.out] at c2
   go_wp2_with fail
   refine c2.mono ?_; rintro e w2 ⟨rfl, o2, hh2, b2⟩
   go_wp2_with fail
   go_ret
   exact ⟨_, rfl, o2.mono (Nat.le_refl _) hh2, b2⟩

end Go.Proofs.YtndfmkbpdoohfaaGreat

/- The pending slot with the most or the least urgent interrupt, in the program. Condition: the slots are valid. -/
namespace Go.Proofs.YtndfmkbpdoohfaaGreat
open Go.RowKit Go.ChangeShapes Go.WideShapes Go.Deep

set_option maxHeartbeats 8000000 in
theorem pendingSlot_any (v : Value) (l : List Sl) (most : Bool) (w : World) {lo hi : Nat} (h : Rd Sl.cells 3 w lo hi v l) (hh : hi ≤ w.heap.size) (hg : Sl.good l = true) : Calls Tryz.prog 105 #[v, .bool most] w fun e w' => e = .returned (.int .i64 (Sl.best most l l.length)) ∧ Below w.heap.size w w' := by
 have hrd := h
 have HG := Lib.hid hg
 obtain ⟨A, n, c, rfl, H, hc, hm⟩ := h.form
 clear h hg
 go_enter Tryz.func105, Tryz.ntmps105
 go_wp2_with fail
 go_loopw [5, 10] (fun q i wr => ∃ k : Nat, k ≤ n ∧ i = .int .i64 k ∧ q = .int .i64 (Sl.best most l k) ∧ Below w.heap.size w wr) (fun _ i _ => n - (intOf i).toNat)
 case atStart => exact ⟨0, Nat.zero_le _, rfl, rfl, Below.refl _ _⟩
 case round =>
  obtain ⟨k, hk, rfl, rfl, hb⟩ := hrel
  by_cases hlt : k < n
  ·obtain ⟨b, off, s, rfl, hs, _, hbl, f0, f1, f2⟩ := Sl.get hrd hlt hb hh
   have hbs := hb.size
   have hbw : b < wr.heap.size := by omega
   have hb2 := hb.alloc hb.size (.cells #[.int .i64 s.state, .int .i64 s.irq, .int .i64 s.prio] 93)
   have hN := Sl.best_succ (most := most) hs.out
   by_cases h1 : s.state = 1
   ·rcases Sl.best_bd most l k (by have := H.out; omega) with hbd | ⟨j, u, hbd, hj, hu, hu1⟩
    ·have HN := Lib.hid (show Sl.best most l (k + 1) = k from by rw [hN, hbd]; simp [Sl.bestIf, h1])
     rw [h1] at f0 hb2
     rw [hbd]
     clear hN hbd h1
     go_wp2_with fail
     go_quiet (fail)
     go_wp2_with fail
     go_roundw
     case rel => exact ⟨k + 1, by omega, by go_num, by rw [HN.out], below_drewN hb2 _⟩
     case measure => simp [intOf]; omega
    ·obtain ⟨_, _, u', e, hu', _, _, g0, g1, g2⟩ := Sl.get hrd (k := j) (by omega) hb hh
     injection e with e
     injection e with e1 e2
     subst e1; subst e2
     obtain rfl : u = u' := Option.some.inj (hu.symm.trans hu'.out)
     have hj0 : decide ((j : Int) < 0) = false := by simp
     have hjn : (j : Int) < (n : Int) := by omega
     have hne := Sl.good_ne HG.out hj hu hs.out (by omega) (by omega)
     have hln : s.wt.lt u.wt = !u.wt.lt s.wt := by
      unfold Wt.lt Sl.wt
      rw [Bool.eq_iff_iff]
      simp only [Bool.or_eq_true, Bool.and_eq_true, Bool.not_eq_true', Bool.or_eq_false_iff, Bool.and_eq_false_iff, decide_eq_true_eq, decide_eq_false_iff_not]
      omega
     have HN := Lib.hid (show Sl.best most l (k + 1) = if (s.wt.lt u.wt == most) then (k : Int) else j from by
      have hj1 : ¬ (j : Int) < 0 := by omega
      rw [hN, hbd]
      cases most <;> simp [Sl.bestIf, h1, hu, hj1, Sl.bt, hln])
     rw [hbd]
     rw [h1] at f0 hb2
     have hur := urg_neg s.wt u.wt
     clear hN hbd h1 hu hu' hu1 hne hln
     unfold Sl.wt at hur HN
     cases hq : Wt.lt ⟨s.irq, s.prio⟩ ⟨u.irq, u.prio⟩
     ·have hd : decide (urg ⟨s.irq, s.prio⟩ ⟨u.irq, u.prio⟩ < 0) = false := decide_eq_false (fun h => by rw [hq] at hur; simpa using hur.1 h)
      rw [hq] at HN
      clear hq hur
      cases most
      all_goals
       go_wp2_with fail
       have k0 : (wr.alloc (.cells #[.int .i64 1, .int .i64 s.irq, .int .i64 s.prio] 93)).cell? ⟨wr.heap.size, 0, none⟩ = some (.int .i64 1) := by simp
       have k1 : (wr.alloc (.cells #[.int .i64 1, .int .i64 s.irq, .int .i64 s.prio] 93)).cell? ⟨wr.heap.size, 1, none⟩ = some (.int .i64 s.irq) := by simp
       have k2 : (wr.alloc (.cells #[.int .i64 1, .int .i64 s.irq, .int .i64 s.prio] 93)).cell? ⟨wr.heap.size, 2, none⟩ = some (.int .i64 s.prio) := by simp
       have k3 : (wr.alloc (.cells #[.int .i64 1, .int .i64 s.irq, .int .i64 s.prio] 93)).cell? ⟨b, off + j * 3, none⟩ = some (.int .i64 u.state) := by rw [World.cell?_alloc_lt _ _ _ hbw]; exact g0
       have k4 : (wr.alloc (.cells #[.int .i64 1, .int .i64 s.irq, .int .i64 s.prio] 93)).cell? ⟨b, off + j * 3 + 1, none⟩ = some (.int .i64 u.irq) := by rw [World.cell?_alloc_lt _ _ _ hbw]; exact g1
       have k5 : (wr.alloc (.cells #[.int .i64 1, .int .i64 s.irq, .int .i64 s.prio] 93)).cell? ⟨b, off + j * 3 + 2, none⟩ = some (.int .i64 u.prio) := by rw [World.cell?_alloc_lt _ _ _ hbw]; exact g2
       clear f0 f1 f2 g0 g1 g2
       generalize wr.alloc _ = w2 at hb2 k0 k1 k2 k3 k4 k5 ⊢
       have e0 := cell_ext k0; have e1 := cell_ext k1; have e2 := cell_ext k2; have e3 := cell_ext k3; have e4 := cell_ext k4; have e5 := cell_ext k5
       refine wp_region_ext_all (by kernel_rfl) (by kernel_rfl) ?_
       repeat (go_big_quiet_step (first | (go_at_call 107; exact calls_ext (waiterOf_at _ _ _ _)) | (go_at_call 104; exact calls_ext (compareUrgency_at _ _ _ _ _))))
       refine wpQuiet_nil ?_
       intro w3 b3
       clear e0 e1 e2 e3 e4 e5
       go_wp2_with fail
       go_roundw
       case rel => exact ⟨k + 1, by omega, by go_num, by rw [HN.out]; rfl, hb2.trans (b3.mono hb2.size)⟩
       case measure => simp [intOf]; omega
     ·have hd : decide (urg ⟨s.irq, s.prio⟩ ⟨u.irq, u.prio⟩ < 0) = true := decide_eq_true (hur.2 hq)
      rw [hq] at HN
      clear hq hur
      cases most
      all_goals
       go_wp2_with fail
       have k0 : (wr.alloc (.cells #[.int .i64 1, .int .i64 s.irq, .int .i64 s.prio] 93)).cell? ⟨wr.heap.size, 0, none⟩ = some (.int .i64 1) := by simp
       have k1 : (wr.alloc (.cells #[.int .i64 1, .int .i64 s.irq, .int .i64 s.prio] 93)).cell? ⟨wr.heap.size, 1, none⟩ = some (.int .i64 s.irq) := by simp
       have k2 : (wr.alloc (.cells #[.int .i64 1, .int .i64 s.irq, .int .i64 s.prio] 93)).cell? ⟨wr.heap.size, 2, none⟩ = some (.int .i64 s.prio) := by simp
       have k3 : (wr.alloc (.cells #[.int .i64 1, .int .i64 s.irq, .int .i64 s.prio] 93)).cell? ⟨b, off + j * 3, none⟩ = some (.int .i64 u.state) := by rw [World.cell?_alloc_lt _ _ _ hbw]; exact g0
       have k4 : (wr.alloc (.cells #[.int .i64 1, .int .i64 s.irq, .int .i64 s.prio] 93)).cell? ⟨b, off + j * 3 + 1, none⟩ = some (.int .i64 u.irq) := by rw [World.cell?_alloc_lt _ _ _ hbw]; exact g1
       have k5 : (wr.alloc (.cells #[.int .i64 1, .int .i64 s.irq, .int .i64 s.prio] 93)).cell? ⟨b, off + j * 3 + 2, none⟩ = some (.int .i64 u.prio) := by rw [World.cell?_alloc_lt _ _ _ hbw]; exact g2
       clear f0 f1 f2 g0 g1 g2
       generalize wr.alloc _ = w2 at hb2 k0 k1 k2 k3 k4 k5 ⊢
       have e0 := cell_ext k0; have e1 := cell_ext k1; have e2 := cell_ext k2; have e3 := cell_ext k3; have e4 := cell_ext k4; have e5 := cell_ext k5
       refine wp_region_ext_all (by kernel_rfl) (by kernel_rfl) ?_
       repeat (go_big_quiet_step (first | (go_at_call 107; exact calls_ext (waiterOf_at _ _ _ _)) | (go_at_call 104; exact calls_ext (compareUrgency_at _ _ _ _ _))))
       refine wpQuiet_nil ?_
       intro w3 b3
       clear e0 e1 e2 e3 e4 e5
       go_wp2_with fail
       go_roundw
       case rel => exact ⟨k + 1, by omega, by go_num, by rw [HN.out]; rfl, hb2.trans (b3.mono hb2.size)⟩
       case measure => simp [intOf]; omega
   ·have HN := Lib.hid (show Sl.best most l (k + 1) = Sl.best most l k from by rw [hN]; simp [Sl.bestIf, h1])
    have hd : (s.state == 1) = false := by simp [h1]
    clear hN h1
    generalize Sl.best most l k = q at *
    go_wp2_with fail
    go_quiet (fail)
    go_wp2_with fail
    go_roundw
    case rel => exact ⟨k + 1, by omega, by go_num, by rw [HN.out], below_drewN hb2 _⟩
    case measure => simp [intOf]; omega
  ·have hkn : k = n := by omega
   have HE := Lib.hid (show Sl.best most l k = Sl.best most l l.length from by rw [hkn, H.out])
   go_wp2_with fail
   go_ret
   exact ⟨ret_int HE.out, hb⟩

end Go.Proofs.YtndfmkbpdoohfaaGreat

/- Taking the most urgent pending interrupt, in the program and in the reference. Condition (the inner functions): valid slots. -/
namespace Go.Proofs.YtndfmkbpdoohfaaGreat
open Go.RowKit Go.ChangeShapes Go.WideShapes Go.Deep

def Sl.bx (l : List Sl) : Int := Sl.best true l l.length
def Sl.act (s : Sl) : Sl := ⟨2, s.irq, s.prio⟩
def Sl.tkOk (l : List Sl) (m : Int) : Bool := decide (0 ≤ Sl.bx l) && decide ((Sl.at_ l (Sl.bx l)).prio < m)
def Sl.tkS (l : List Sl) : List Sl := l.set (Sl.bx l).toNat (Sl.act (Sl.at_ l (Sl.bx l)))
def Sl.tkI (l : List Sl) : Int := (Sl.at_ l (Sl.bx l)).irq
def Sl.tkR (l : List Sl) (m : Int) : List Sl := if Sl.tkOk l m then Sl.tkS l else []
def Sl.tkV (l : List Sl) (m : Int) : Int := if Sl.tkOk l m then Sl.tkI l else 0
/-- as the reference's inner function returns them -/
def Sl.tkL (l : List Sl) (m : Int) : List Sl := if Sl.tkOk l m then Sl.tkS l else l
def Sl.tkW (l : List Sl) (m : Int) : Int := if Sl.tkOk l m then Sl.tkI l else -1
theorem Sl.bx_cases (l : List Sl) : Sl.bx l = -1 ∨ ∃ (k : Nat) (s : Sl), Sl.bx l = k ∧ k < l.length ∧ l[k]? = some s ∧ s.state = 1 :=
 (Sl.best_bd true l l.length (Nat.le_refl _)).imp id fun ⟨k, s, h1, h2, h3, h4⟩ => ⟨k, s, h1, h2, h3, h4⟩
theorem Sl.tk_no {l : List Sl} {m : Int} (h : Sl.tkOk l m = false) : Sl.tkOk l m = false ∧ Sl.tkR l m = [] ∧ Sl.tkV l m = 0 ∧ Sl.tkL l m = l ∧ Sl.tkW l m = -1 := by
 simp [Sl.tkR, Sl.tkV, Sl.tkL, Sl.tkW, h]
theorem Sl.tk_yes {l : List Sl} {m : Int} {k : Nat} {s : Sl} (h : Sl.bx l = k) (hs : l[k]? = some s) (hp : s.prio < m) : Sl.tkOk l m = true ∧ Sl.tkR l m = l.set k (Sl.act s) ∧ Sl.tkV l m = s.irq ∧ Sl.tkL l m = l.set k (Sl.act s) ∧ Sl.tkW l m = s.irq := by
 have h1 : Sl.tkOk l m = true := by simp [Sl.tkOk, h, Sl.at_get hs, hp]
 simp [Sl.tkR, Sl.tkV, Sl.tkL, Sl.tkW, h1, Sl.tkS, Sl.tkI, h, Sl.at_get hs]
theorem Sl.tk_irq {l : List Sl} (hg : Sl.good l = true) {m : Int} (h : Sl.tkOk l m = true) : 0 ≤ Sl.tkI l := by
 rcases Sl.bx_cases l with hb | ⟨k, s, hb, _, hs, h1⟩
 ·simp [Sl.tkOk, hb] at h
 ·have := Sl.good_one hg hs
  have h0 : ¬ s.state = 0 := by omega
  simp only [Sl.okAt, if_neg h0, Bool.and_eq_true] at this
  have := inB_true this.2.1
  rw [Sl.tkI, hb, Sl.at_get hs]
  exact this.1
theorem Sl.tkS_len (l : List Sl) : (Sl.tkS l).length = l.length := by simp [Sl.tkS]
set_option maxHeartbeats 1000000 in
theorem specTake_in (v : Value) (l : List Sl) (m : Int) (w : World) {lo hi : Nat} (h : Rd Sl.cells 3 w lo hi v l) (hh : hi ≤ w.heap.size) (hg : Sl.good l = true) :
  Calls Tryz.prog 101 #[v, .int .i64 m] w fun r w' => ∃ v', r = .returned (.tuple #[v', .int .i64 (Sl.tkW l m)]) ∧ Rd Sl.cells 3 w' 0 w'.heap.size v' (Sl.tkL l m) ∧ Below w.heap.size w w' := by
 have hl : l.length ≤ 1048576 := by rw [Sl.good_len hg]; decide
 have c1 := l8Best_any v l true w h hh
 change Calls _ _ _ _ (fun e w' => e = .returned (.int .i64 (Sl.bx l)) ∧ Below w.heap.size w w') at c1
 have c3 := fun (W : World) (kb : Below w.heap.size w W) (k : Nat) (s : Sl) (hk : k < l.length) => specWith_any v l k s W (h.below kb hh) (Nat.le_trans hh kb.size) hk hl
 have hrd := h
 obtain ⟨A, n, c, rfl, H, hc, hm⟩ := h.form
 clear hg
 rcases Sl.bx_cases l with hf | ⟨k, s, hf, hk, hs, _⟩
 ·rw [hf] at c1
  have HF := Lib.hid (Sl.tk_no (l := l) (m := m) (by simp [Sl.tkOk, hf]))
  clear hf c3
  go_enter Tryz.func101, Tryz.ntmps101
  go_wp2_with fail
  refine c1.mono ?_; rintro q_ w1 ⟨rfl, b1⟩
  go_wp2_with fail
  go_ret2
  exact ⟨_, by rw [HF.out.2.2.2.2]; rfl, by rw [HF.out.2.2.2.1]; exact (hrd.below b1 hh).mono (Nat.zero_le _) (Nat.le_trans hh b1.size), b1⟩
 ·rw [hf] at c1
  have hkn : k < n := by rw [H.out]; exact hk
  have HT := Lib.hid hs
  have hj0 : decide ((k : Int) < 0) = false := by simp
  by_cases hp : s.prio < m
  ·have HF := Lib.hid (Sl.tk_yes hf hs hp)
   have hd : decide (m ≤ s.prio) = false := decide_eq_false (by omega)
   have c3 := fun W kb => c3 W kb k (Sl.act s) hk
   unfold Sl.act Sl.val at c3
   simp only at c3
   unfold Sl.act at HF
   clear hf hs hp
   go_enter Tryz.func101, Tryz.ntmps101
   go_wp2_with fail
   refine c1.mono ?_; rintro q_ w1 ⟨rfl, b1⟩
   obtain ⟨b, off, t, rfl, ht, _, hbl, f0, f1, f2⟩ := Sl.get hrd hkn b1 hh
   obtain rfl := Option.some.inj (HT.out.symm.trans ht.out)
   have hbw1 : b < w1.heap.size := by have := b1.size; omega
   go_wp2_with fail
   have k0 : (w1.alloc (.cells #[.int .i64 2, .int .i64 s.irq, .int .i64 s.prio] 93)).cell? ⟨w1.heap.size, 0, none⟩ = some (.int .i64 2) := by simp
   have k1 : (w1.alloc (.cells #[.int .i64 2, .int .i64 s.irq, .int .i64 s.prio] 93)).cell? ⟨w1.heap.size, 1, none⟩ = some (.int .i64 s.irq) := by simp
   have k2 : (w1.alloc (.cells #[.int .i64 2, .int .i64 s.irq, .int .i64 s.prio] 93)).cell? ⟨w1.heap.size, 2, none⟩ = some (.int .i64 s.prio) := by simp
   have bx := b1.alloc b1.size (.cells #[.int .i64 2, .int .i64 s.irq, .int .i64 s.prio] 93)
   have z2 : w1.heap.size < (w1.alloc (.cells #[.int .i64 2, .int .i64 s.irq, .int .i64 s.prio] 93)).heap.size := by simp
   have zz := bx.size
   clear f0 f1 f2
   generalize w1.alloc _ = w2 at bx k0 k1 k2 z2 zz ⊢
   have c5 := c3 w2.drew (bx.drew)
   go_region_with (go_at_call 136; refine c5.mono ?_; rintro q_ w3 ⟨v', rfl, o1, b3⟩; (try simp only [World.size_drew] at b3 o1); (have k3 := (b3.cell (p := ⟨w1.heap.size, 1, none⟩) z2).trans k1))
   all_goals
    have bx := bx.drew
    go_wp2_with fail
    go_ret2
    exact ⟨v', by rw [HF.out.2.2.2.2]; rfl, by rw [HF.out.2.2.2.1]; exact o1.rd.mono (Nat.zero_le _) (Nat.le_refl _), bx.trans (b3.mono zz)⟩
  ·have HF := Lib.hid (Sl.tk_no (l := l) (m := m) (by simp [Sl.tkOk, hf, Sl.at_get hs, hp]))
   have hd : decide (m ≤ s.prio) = true := decide_eq_true (by omega)
   clear hf hs hp c3
   go_enter Tryz.func101, Tryz.ntmps101
   go_wp2_with fail
   refine c1.mono ?_; rintro q_ w1 ⟨rfl, b1⟩
   have hrd2 := hrd
   obtain ⟨b, off, t, rfl, ht, _, hbl, f0, f1, f2⟩ := Sl.get hrd hkn b1 hh
   obtain rfl := Option.some.inj (HT.out.symm.trans ht.out)
   have hbw1 : b < w1.heap.size := by have := b1.size; omega
   go_wp2_with fail
   go_ret2
   exact ⟨_, by rw [HF.out.2.2.2.2]; rfl, by rw [HF.out.2.2.2.1]; exact (hrd.below b1 hh).mono (Nat.zero_le _) (Nat.le_trans hh b1.size), b1⟩
set_option maxHeartbeats 1000000 in
theorem implTake_in (v : Value) (l : List Sl) (m : Int) (w : World) {lo hi : Nat} (h : Rd Sl.cells 3 w lo hi v l) (hh : hi ≤ w.heap.size) (hg : Sl.good l = true) :
  Calls Tryz.prog 96 #[v, .int .i64 m] w fun r w' => ∃ v', r = .returned (.tuple #[v', .int .i64 (Sl.tkV l m), .bool (Sl.tkOk l m)]) ∧ Ow Sl.cells 3 93 w' w.heap.size w'.heap.size v' (Sl.tkR l m) ∧ Below w.heap.size w w' := by
 have hl : l.length ≤ 1048576 := by rw [Sl.good_len hg]; decide
 have c1 := pendingSlot_any v l true w h hh hg
 change Calls _ _ _ _ (fun e w' => e = .returned (.int .i64 (Sl.bx l)) ∧ Below w.heap.size w w') at c1
 have c3 := fun (W : World) (kb : Below w.heap.size w W) (k : Nat) (s : Sl) (hk : k < l.length) => implWith_any v l k s W (h.below kb hh) (Nat.le_trans hh kb.size) hk hl
 have hrd := h
 obtain ⟨A, n, c, rfl, H, hc, hm⟩ := h.form
 clear hg
 rcases Sl.bx_cases l with hf | ⟨k, s, hf, hk, hs, _⟩
 ·rw [hf] at c1
  have HF := Lib.hid (Sl.tk_no (l := l) (m := m) (by simp [Sl.tkOk, hf]))
  clear hf c3
  go_enter Tryz.func96, Tryz.ntmps96
  go_wp2_with fail
  refine c1.mono ?_; rintro q_ w1 ⟨rfl, b1⟩
  go_wp2_with fail
  go_ret3
  exact ⟨_, by rw [HF.out.1, HF.out.2.2.1]; rfl, by rw [HF.out.2.1]; exact Ow.nil_, b1⟩
 ·rw [hf] at c1
  have hkn : k < n := by rw [H.out]; exact hk
  have HT := Lib.hid hs
  have hj0 : decide ((k : Int) < 0) = false := by simp
  by_cases hp : s.prio < m
  ·have HF := Lib.hid (Sl.tk_yes hf hs hp)
   have hd : decide (m ≤ s.prio) = false := decide_eq_false (by omega)
   have c3 := fun W kb => c3 W kb k (Sl.act s) hk
   unfold Sl.act Sl.val at c3
   simp only at c3
   unfold Sl.act at HF
   clear hf hs hp
   go_enter Tryz.func96, Tryz.ntmps96
   go_wp2_with fail
   refine c1.mono ?_; rintro q_ w1 ⟨rfl, b1⟩
   obtain ⟨b, off, t, rfl, ht, _, hbl, f0, f1, f2⟩ := Sl.get hrd hkn b1 hh
   obtain rfl := Option.some.inj (HT.out.symm.trans ht.out)
   have hbw1 : b < w1.heap.size := by have := b1.size; omega
   go_wp2_with fail
   have k0 : (w1.alloc (.cells #[.int .i64 2, .int .i64 s.irq, .int .i64 s.prio] 93)).cell? ⟨w1.heap.size, 0, none⟩ = some (.int .i64 2) := by simp
   have k1 : (w1.alloc (.cells #[.int .i64 2, .int .i64 s.irq, .int .i64 s.prio] 93)).cell? ⟨w1.heap.size, 1, none⟩ = some (.int .i64 s.irq) := by simp
   have k2 : (w1.alloc (.cells #[.int .i64 2, .int .i64 s.irq, .int .i64 s.prio] 93)).cell? ⟨w1.heap.size, 2, none⟩ = some (.int .i64 s.prio) := by simp
   have bx := b1.alloc b1.size (.cells #[.int .i64 2, .int .i64 s.irq, .int .i64 s.prio] 93)
   have z2 : w1.heap.size < (w1.alloc (.cells #[.int .i64 2, .int .i64 s.irq, .int .i64 s.prio] 93)).heap.size := by simp
   have zz := bx.size
   clear f0 f1 f2
   generalize w1.alloc _ = w2 at bx k0 k1 k2 z2 zz ⊢
   have c5 := c3 w2.drew (bx.drew)
   go_region_with (go_at_call 131; refine c5.mono ?_; rintro q_ w3 ⟨v', rfl, o1, b3⟩; (try simp only [World.size_drew] at b3 o1); (have k3 := (b3.cell (p := ⟨w1.heap.size, 1, none⟩) z2).trans k1))
   all_goals
    have bx := bx.drew
    go_wp2_with fail
    go_ret3
    exact ⟨v', by rw [HF.out.1, HF.out.2.2.1]; rfl, by rw [HF.out.2.1]; exact o1.mono zz (Nat.le_refl _), bx.trans (b3.mono zz)⟩
  ·have HF := Lib.hid (Sl.tk_no (l := l) (m := m) (by simp [Sl.tkOk, hf, Sl.at_get hs, hp]))
   have hd : decide (m ≤ s.prio) = true := decide_eq_true (by omega)
   clear hf hs hp c3
   go_enter Tryz.func96, Tryz.ntmps96
   go_wp2_with fail
   refine c1.mono ?_; rintro q_ w1 ⟨rfl, b1⟩
   have hrd2 := hrd
   obtain ⟨b, off, t, rfl, ht, _, hbl, f0, f1, f2⟩ := Sl.get hrd hkn b1 hh
   obtain rfl := Option.some.inj (HT.out.symm.trans ht.out)
   have hbw1 : b < w1.heap.size := by have := b1.size; omega
   go_wp2_with fail
   go_ret3
   exact ⟨_, by rw [HF.out.1, HF.out.2.2.1]; rfl, by rw [HF.out.2.1]; exact Ow.nil_, b1⟩

end Go.Proofs.YtndfmkbpdoohfaaGreat

/- The waiting interrupts of a queue: their validity, in the program and in the reference. No condition. -/
namespace Go.Proofs.YtndfmkbpdoohfaaGreat
open Go.RowKit Go.ChangeShapes Go.WideShapes Go.Deep

theorem nodup_bound : ∀ (k : Nat) (l : List Int), l.Nodup → (∀ x ∈ l, 0 ≤ x ∧ x < k) → l.length ≤ k
 | 0, l, _, hb => by
  cases l with
  | nil => simp
  | cons x l => have := hb x (by simp); omega
 | k + 1, l, hn, hb => by
  by_cases hm : (k : Int) ∈ l
  ·have h1 := nodup_bound k (l.erase (k : Int)) (hn.erase _) (fun x hx => by
    have hx1 := List.mem_of_mem_erase hx
    have h2 := hb x hx1
    have h3 : x ≠ k := fun e => by rw [e] at hx; exact absurd hx (List.Nodup.not_mem_erase hn)
    omega)
   rw [List.length_erase_of_mem hm] at h1
   omega
  ·have := nodup_bound k l hn (fun x hx => by
    have h2 := hb x hx
    have h3 : x ≠ k := fun e => hm (e ▸ hx)
    omega)
   omega

def Wt.isI (i : Int) (w : Wt) : Bool := w.irq == i
def Wt.prevOk (lw : List Wt) (w : Wt) : Nat → Bool
 | 0 => true
 | j + 1 => (lw.getD j default).lt w
def Wt.okAt (ls : List Sl) (lw : List Wt) (i : Nat) (w : Wt) : Bool := inB w.irq 0 7 && (inB w.prio 0 15 && (decide (Sl.ix ls w.irq < 0) && (!(lw.take i).any (Wt.isI w.irq) && Wt.prevOk lw w i)))
def Wt.upTo (ls : List Sl) (lw : List Wt) : Nat → Bool
 | 0 => true
 | k + 1 => Wt.upTo ls lw k && (match lw[k]? with | some w => Wt.okAt ls lw k w | none => true)
def Qu.parts (ls : List Sl) (lw : List Wt) : Bool := Sl.good ls && Wt.upTo ls lw lw.length
theorem Wt.upTo_succ {ls : List Sl} {lw : List Wt} {k : Nat} {w : Wt} (h : lw[k]? = some w) : Wt.upTo ls lw (k + 1) = (Wt.upTo ls lw k && Wt.okAt ls lw k w) := by simp [Wt.upTo, h]
theorem Wt.upTo_mono {ls : List Sl} {lw : List Wt} : ∀ {k m : Nat}, k ≤ m → Wt.upTo ls lw m = true → Wt.upTo ls lw k = true
 | k, 0, h, h2 => by
    obtain rfl : k = 0 := by omega
    exact h2
 | k, m + 1, h, h2 => by
  rcases Nat.eq_or_lt_of_le h with rfl | h
  ·exact h2
  ·rw [Wt.upTo, Bool.and_eq_true] at h2
   exact Wt.upTo_mono (by omega) h2.1
theorem Wt.upTo_at {ls : List Sl} {lw : List Wt} {m k : Nat} {w : Wt} (h : Wt.upTo ls lw m = true) (hk : k < m) (hw : lw[k]? = some w) : Wt.okAt ls lw k w = true := by
 have := Wt.upTo_mono (show k + 1 ≤ m by omega) h
 rw [Wt.upTo_succ hw, Bool.and_eq_true] at this
 exact this.2
theorem Qu.parts_no {ls : List Sl} {lw : List Wt} {k : Nat} {w : Wt} (hk : k < lw.length) (h : lw[k]? = some w) (h2 : Wt.okAt ls lw k w = false) : Qu.parts ls lw = false := by
 cases hq : Wt.upTo ls lw lw.length
 ·simp [Qu.parts, hq]
 ·have := Wt.upTo_at hq hk h
  rw [h2] at this; cases this
theorem Qu.parts_get {ls : List Sl} {lw : List Wt} (h : Qu.parts ls lw = true) : Sl.good ls = true ∧ Wt.upTo ls lw lw.length = true := by simpa [Qu.parts] using h
theorem Wt.upTo_nodup {ls : List Sl} {lw : List Wt} (h : Wt.upTo ls lw lw.length = true) : (lw.map Wt.irq).Nodup := by
 unfold List.Nodup
 rw [List.pairwise_map, List.pairwise_iff_getElem]
 intro i j hi hj hij he
 have := Wt.upTo_at h hj (List.getElem?_eq_getElem hj)
 simp only [Wt.okAt, Bool.and_eq_true, Bool.not_eq_true'] at this
 have h2 := List.any_eq_false.1 this.2.2.2.1 lw[i] (List.mem_of_getElem? (by rw [List.getElem?_take, if_pos hij]; exact List.getElem?_eq_getElem hi))
 simp [Wt.isI, he] at h2
theorem Wt.upTo_len {ls : List Sl} {lw : List Wt} (h : Wt.upTo ls lw lw.length = true) : lw.length ≤ 8 := by
 have := nodup_bound 8 (lw.map Wt.irq) (Wt.upTo_nodup h) (fun x hx => by
  obtain ⟨w, hw, rfl⟩ := List.mem_map.1 hx
  obtain ⟨k, hk⟩ := List.getElem?_of_mem hw
  have h2 := Wt.upTo_at h (List.getElem?_eq_some_iff.1 hk).1 hk
  simp only [Wt.okAt, Bool.and_eq_true] at h2
  have := inB_true h2.1
  omega)
 simpa using this
theorem Qu.parts_len {ls : List Sl} {lw : List Wt} (h : Qu.parts ls lw = true) : lw.length ≤ 8 := Wt.upTo_len (Qu.parts_get h).2

theorem urg_pos (x y : Wt) : 0 < urg x y ↔ y.lt x = true := by
 unfold urg orI cmpI Wt.lt
 simp only [Bool.or_eq_true, Bool.and_eq_true, decide_eq_true_eq]
 repeat' split
 all_goals omega

theorem waitClo_any (i : Int) (w : World) {B : Nat} (hB : w.cell? ⟨B, 0, none⟩ = some (.int .i64 i)) (hz : B < w.heap.size) (s : Wt) (W : World) (hb : Below w.heap.size w W) :
  Calls Tryz.prog 138 (#[s.val] ++ #[.pointer (some ⟨B, 0, none⟩)]) W fun e w' => e = .returned (.bool (Wt.isI i s)) ∧ Below W.heap.size W w' := by
 rw [← hb.cell (p := ⟨B, 0, none⟩) hz] at hB
 have hBz : B < W.heap.size := Nat.lt_of_lt_of_le hz hb.size
 clear hb hz
 unfold Wt.val Wt.isI
 go_enter Tryz.func138, Tryz.ntmps138
 go_wp2
 go_ret
 exact ⟨rfl, by go_grown⟩

theorem waiterIndex_any (v : Value) (l : List Wt) (i : Int) (w : World) {lo hi : Nat} (h : Rd Wt.cells 2 w lo hi v l) (hh : hi ≤ w.heap.size) : Calls Tryz.prog 103 #[v, .int .i64 i] w fun e w' => e = .returned (.int .i64 (findIx (Wt.isI i) l)) ∧ Below w.heap.size w w' := by
 have b0 := (Below.refl w.heap.size w).alloc (Nat.le_refl _) (.cells #[.int .i64 i] 3)
 have k0 : (w.alloc (.cells #[.int .i64 i] 3)).cell? ⟨w.heap.size, 0, none⟩ = some (.int .i64 i) := by simp
 have z0 : (w.alloc (.cells #[.int .i64 i] 3)).heap.size = w.heap.size + 1 := by simp
 have hrd := h.below b0 hh
 have c1 := Wt.index_any 138 #[.pointer (some ⟨w.heap.size, 0, none⟩)] (Wt.isI i) v l _ hrd (by omega) (enters Tryz.func138 (by kernel_rfl) rfl) (fun t W _ hW => waitClo_any i _ k0 (by omega) t W hW)
 obtain ⟨A, n, c, rfl, H, hc, hm⟩ := h.form
 go_enter Tryz.func103, Tryz.ntmps103
 go_wp2_with fail
 refine c1.mono ?_; rintro e w1 ⟨rfl, b1⟩
 go_wp2_with fail
 go_ret
 exact ⟨rfl, b0.trans (b1.mono (by omega))⟩

end Go.Proofs.YtndfmkbpdoohfaaGreat

/- Whether slots and waiting interrupts are those of a queue, in the program. No condition. -/
namespace Go.Proofs.YtndfmkbpdoohfaaGreat
open Go.RowKit Go.ChangeShapes Go.WideShapes Go.Deep

theorem findIx_neg {α : Type} (p : α → Bool) (l : List α) : decide (findIx p l < 0) = !l.any p := by
 have := findIx_nonneg p l
 rw [← this]
 by_cases h : 0 ≤ findIx p l <;> simp [h] <;> omega

set_option maxHeartbeats 8000000 in
theorem areParts_any (vs vw : Value) (ls : List Sl) (lw : List Wt) (w : World) {lo hi lo2 hi2 : Nat} (h : Rd Sl.cells 3 w lo hi vs ls) (h2 : Rd Wt.cells 2 w lo2 hi2 vw lw) (hh : hi ≤ w.heap.size) (hh2 : hi2 ≤ w.heap.size) :
  Calls Tryz.prog 81 #[vs, vw] w fun e w' => e = .returned (.bool (Qu.parts ls lw)) ∧ Below w.heap.size w w' := by
 have c0 := implAreSlots_any vs ls w h hh
 have hs := h
 have hw := h2
 obtain ⟨A0, n0, d0, rfl, H0, hd0, hm0⟩ := h.form
 obtain ⟨A, n, c, rfl, H, hc, hm⟩ := h2.form
 clear h h2
 cases hg : Sl.good ls
 ·have HF := Lib.hid (show Qu.parts ls lw = false from by simp [Qu.parts, hg])
  rw [hg] at c0
  clear hg
  go_enter Tryz.func81, Tryz.ntmps81
  go_wp2_with fail
  refine c0.mono ?_; rintro q_ w1 ⟨rfl, b1⟩
  go_wp2_with fail
  go_ret
  exact ⟨ret_bool HF.out.symm, b1⟩
 ·have HG := Lib.hid hg
  rw [hg] at c0
  clear hg
  have c1 := fun x W => isIrq_any x W
  have c2 := fun x W => isPriority_any x W
  go_enter Tryz.func81, Tryz.ntmps81
  go_wp2_with fail
  refine c0.mono ?_; rintro q_ w1 ⟨rfl, b1⟩
  go_wp2_with fail
  go_loopw [12] (fun i wr => ∃ k : Nat, k ≤ n ∧ i = .int .i64 k ∧ Below w.heap.size w wr ∧ Wt.upTo ls lw k = true) (fun i _ => n - (intOf i).toNat)
  case atStart => exact ⟨0, Nat.zero_le _, rfl, b1, rfl⟩
  case round =>
   clear b1 c0
   obtain ⟨k, hk, rfl, hb, he⟩ := hrel
   have HE := Lib.hid he
   clear he
   have hbs := hb.size
   by_cases hlt : k < n
   ·obtain ⟨b, off, s, rfl, ht, _, hbl, f0, f1⟩ := Wt.get hw hlt hb hh2
    have hb2 := hb.alloc hb.size (.cells #[.int .i64 s.irq, .int .i64 s.prio] 107)
    have HN := Lib.hid (fun hq => Qu.parts_no (ls := ls) (k := k) (w := s) (by rw [← H.out]; exact hlt) ht.out hq)
    have HY := Lib.hid (fun (hq : Wt.okAt ls lw k s = true) => show Wt.upTo ls lw (k + 1) = true from by rw [Wt.upTo_succ ht.out, HE.out, hq]; rfl)
    have hbw : b < wr.heap.size := by omega
    have c1 := c1 s.irq
    have c2 := c2 s.prio
    have hkn : k ≤ n := by omega
    have hkc : k ≤ c := by omega
    cases h1 : inB s.irq 0 7
    ·have HF := Lib.hid (HN.out (by simp [Wt.okAt, h1]))
     rw [h1] at c1
     clear h1 HN HY c2
     go_wp2_with fail
     have k0 : (wr.alloc (.cells #[.int .i64 s.irq, .int .i64 s.prio] 107)).cell? ⟨wr.heap.size, 0, none⟩ = some (.int .i64 s.irq) := by simp
     have k1 : (wr.alloc (.cells #[.int .i64 s.irq, .int .i64 s.prio] 107)).cell? ⟨wr.heap.size, 1, none⟩ = some (.int .i64 s.prio) := by simp
     clear f0 f1
     have hs2 := hs.below hb2 hh
     have hw2 := hw.below hb2 hh2
     have hz1 := Nat.le_trans hh hb2.size
     have hz2 := Nat.le_trans hh2 hb2.size
     generalize wr.alloc _ = w2 at hb2 k0 k1 hs2 hw2 hz1 hz2 ⊢
     have e0 := cell_ext k0; have e1 := cell_ext k1
     refine wp_region_ext_all (by kernel_rfl) (by kernel_rfl) ?_
     repeat (go_big_quiet_step ((go_at_call 51; exact calls_ext0 (c1 _))))
     refine wpQuiet_nil ?_
     intro w3 b3
     clear e0 e1
     have hb3 := hb2.trans (b3.mono hb2.size)
     go_wp2_with fail
     go_ret
     exact ⟨ret_bool HF.out.symm, hb3⟩
    ·cases h2 : inB s.prio 0 15
     ·have HF := Lib.hid (HN.out (by simp [Wt.okAt, h2]))
      rw [h1] at c1
      rw [h2] at c2
      clear h1 h2 HN HY
      go_wp2_with fail
      have k0 : (wr.alloc (.cells #[.int .i64 s.irq, .int .i64 s.prio] 107)).cell? ⟨wr.heap.size, 0, none⟩ = some (.int .i64 s.irq) := by simp
      have k1 : (wr.alloc (.cells #[.int .i64 s.irq, .int .i64 s.prio] 107)).cell? ⟨wr.heap.size, 1, none⟩ = some (.int .i64 s.prio) := by simp
      clear f0 f1
      have hs2 := hs.below hb2 hh
      have hw2 := hw.below hb2 hh2
      have hz1 := Nat.le_trans hh hb2.size
      have hz2 := Nat.le_trans hh2 hb2.size
      generalize wr.alloc _ = w2 at hb2 k0 k1 hs2 hw2 hz1 hz2 ⊢
      have e0 := cell_ext k0; have e1 := cell_ext k1
      refine wp_region_ext_all (by kernel_rfl) (by kernel_rfl) ?_
      repeat (go_big_quiet_step (first | (go_at_call 51; exact calls_ext0 (c1 _)) | (go_at_call 52; exact calls_ext0 (c2 _))))
      refine wpQuiet_nil ?_
      intro w3 b3
      clear e0 e1
      have hb3 := hb2.trans (b3.mono hb2.size)
      go_wp2_with fail
      go_ret
      exact ⟨ret_bool HF.out.symm, hb3⟩
     ·cases h3 : decide (Sl.ix ls s.irq < 0)
      ·have HF := Lib.hid (HN.out (by simp [Wt.okAt, h3]))
       have hz0 : decide ((0 : Int) ≤ Sl.ix ls s.irq) = true := decide_eq_true (by have := of_decide_eq_false h3; omega)
       rw [h1] at c1
       rw [h2] at c2
       clear h1 h2 h3 HN HY
       go_wp2_with fail
       have k0 : (wr.alloc (.cells #[.int .i64 s.irq, .int .i64 s.prio] 107)).cell? ⟨wr.heap.size, 0, none⟩ = some (.int .i64 s.irq) := by simp
       have k1 : (wr.alloc (.cells #[.int .i64 s.irq, .int .i64 s.prio] 107)).cell? ⟨wr.heap.size, 1, none⟩ = some (.int .i64 s.prio) := by simp
       clear f0 f1
       have hs2 := hs.below hb2 hh
       have hw2 := hw.below hb2 hh2
       have hz1 := Nat.le_trans hh hb2.size
       have hz2 := Nat.le_trans hh2 hb2.size
       generalize wr.alloc _ = w2 at hb2 k0 k1 hs2 hw2 hz1 hz2 ⊢
       have e0 := cell_ext k0; have e1 := cell_ext k1
       have c4 := fun p => implFind_b _ _ s.irq (ext w2 p) (hs2.below (below_ext w2 p) hz1) (Nat.le_trans hz1 (below_ext w2 p).size)
       generalize Sl.ix ls s.irq = z at c4 hz0
       refine wp_region_ext_all (by kernel_rfl) (by kernel_rfl) ?_
       repeat (go_big_quiet_step (first | (go_at_call 51; exact calls_ext0 (c1 _)) | (go_at_call 52; exact calls_ext0 (c2 _)) | (go_at_call 86; exact calls_ext (c4 _))))
       refine wpQuiet_nil ?_
       intro w3 b3
       clear e0 e1
       have hb3 := hb2.trans (b3.mono hb2.size)
       go_wp2_with fail
       go_ret
       exact ⟨ret_bool HF.out.symm, hb3⟩
      ·have hz0 : decide ((0 : Int) ≤ Sl.ix ls s.irq) = false := decide_eq_false (by have := of_decide_eq_true h3; omega)
       cases h4 : (lw.take k).any (Wt.isI s.irq)
       rotate_left
       ·have HF := Lib.hid (HN.out (by simp only [Wt.okAt, h4]; simp))
        have hy0 : decide ((0 : Int) ≤ findIx (Wt.isI s.irq) (lw.take k)) = true := by rw [findIx_nonneg, h4]
        rw [h1] at c1
        rw [h2] at c2
        clear h1 h2 h3 h4 HN HY
        go_wp2_with fail
        have k0 : (wr.alloc (.cells #[.int .i64 s.irq, .int .i64 s.prio] 107)).cell? ⟨wr.heap.size, 0, none⟩ = some (.int .i64 s.irq) := by simp
        have k1 : (wr.alloc (.cells #[.int .i64 s.irq, .int .i64 s.prio] 107)).cell? ⟨wr.heap.size, 1, none⟩ = some (.int .i64 s.prio) := by simp
        clear f0 f1
        have hs2 := hs.below hb2 hh
        have hw2 := hw.below hb2 hh2
        have hz1 := Nat.le_trans hh hb2.size
        have hz2 := Nat.le_trans hh2 hb2.size
        generalize wr.alloc _ = w2 at hb2 k0 k1 hs2 hw2 hz1 hz2 ⊢
        have e0 := cell_ext k0; have e1 := cell_ext k1
        have c4 := fun p => implFind_b _ _ s.irq (ext w2 p) (hs2.below (below_ext w2 p) hz1) (Nat.le_trans hz1 (below_ext w2 p).size)
        have c5 := fun p => waiterIndex_any _ _ s.irq (ext w2 p) ((hw2.take_ hkn).below (below_ext w2 p) hz2) (Nat.le_trans hz2 (below_ext w2 p).size)
        generalize Sl.ix ls s.irq = z at c4 hz0
        generalize findIx (Wt.isI s.irq) (lw.take k) = y at c5 hy0
        refine wp_region_ext_all (by kernel_rfl) (by kernel_rfl) ?_
        repeat (go_big_quiet_step (first | (go_at_call 51; exact calls_ext0 (c1 _)) | (go_at_call 52; exact calls_ext0 (c2 _)) | (go_at_call 86; exact calls_ext (c4 _)) | (go_at_call 103; exact calls_ext (c5 _))))
        refine wpQuiet_nil ?_
        intro w3 b3
        clear e0 e1
        have hb3 := hb2.trans (b3.mono hb2.size)
        go_wp2_with fail
        go_ret
        exact ⟨ret_bool HF.out.symm, hb3⟩
       ·have hy0 : decide ((0 : Int) ≤ findIx (Wt.isI s.irq) (lw.take k)) = false := by rw [findIx_nonneg, h4]
        by_cases hk0 : k = 0
        ·have HF := Lib.hid (HY.out (by subst hk0; simp only [Wt.okAt, h1, h2, h3, h4]; rfl))
         have hd : decide ((0 : Int) < (k : Int)) = false := by subst hk0; simp
         have hd' : decide (0 < k) = false := by subst hk0; simp
         rw [h1] at c1
         rw [h2] at c2
         clear h1 h2 h3 h4 HN HY hk0
         go_wp2_with fail
         have k0 : (wr.alloc (.cells #[.int .i64 s.irq, .int .i64 s.prio] 107)).cell? ⟨wr.heap.size, 0, none⟩ = some (.int .i64 s.irq) := by simp
         have k1 : (wr.alloc (.cells #[.int .i64 s.irq, .int .i64 s.prio] 107)).cell? ⟨wr.heap.size, 1, none⟩ = some (.int .i64 s.prio) := by simp
         clear f0 f1
         have hs2 := hs.below hb2 hh
         have hw2 := hw.below hb2 hh2
         have hz1 := Nat.le_trans hh hb2.size
         have hz2 := Nat.le_trans hh2 hb2.size
         generalize wr.alloc _ = w2 at hb2 k0 k1 hs2 hw2 hz1 hz2 ⊢
         have e0 := cell_ext k0; have e1 := cell_ext k1
         have c4 := fun p => implFind_b _ _ s.irq (ext w2 p) (hs2.below (below_ext w2 p) hz1) (Nat.le_trans hz1 (below_ext w2 p).size)
         have c5 := fun p => waiterIndex_any _ _ s.irq (ext w2 p) ((hw2.take_ hkn).below (below_ext w2 p) hz2) (Nat.le_trans hz2 (below_ext w2 p).size)
         generalize Sl.ix ls s.irq = z at c4 hz0
         generalize findIx (Wt.isI s.irq) (lw.take k) = y at c5 hy0
         refine wp_region_ext_all (by kernel_rfl) (by kernel_rfl) ?_
         repeat (go_big_quiet_step (first | (go_at_call 51; exact calls_ext0 (c1 _)) | (go_at_call 52; exact calls_ext0 (c2 _)) | (go_at_call 86; exact calls_ext (c4 _)) | (go_at_call 103; exact calls_ext (c5 _))))
         refine wpQuiet_nil ?_
         intro w3 b3
         clear e0 e1
         have hb3 := hb2.trans (b3.mono hb2.size)
         go_wp2_with fail
         go_roundw
         case rel => exact ⟨k + 1, by omega, by go_num, hb3, HF.out⟩
         case measure => simp [intOf]; omega
        ·obtain ⟨j, rfl⟩ : ∃ j, k = j + 1 := ⟨k - 1, by omega⟩
         obtain ⟨_, _, u, e, hu, _, _, g0, g1⟩ := Wt.get hw (k := j) (by omega) hb hh2
         injection e with e
         injection e with e1 e2
         subst e1; subst e2
         have hjn : (j : Int) < (n : Int) := by omega
         have hd : decide ((0 : Int) < ((j + 1 : Nat) : Int)) = true := by simp
         have hur := urg_neg u s
         have hpv : Wt.prevOk lw s (j + 1) = u.lt s := by simp [Wt.prevOk, hu.out]
         cases hq : u.lt s
         ·have HF := Lib.hid (HN.out (by simp only [Wt.okAt, hpv, hq]; simp))
          have hd2 : decide ((0 : Int) ≤ urg ⟨u.irq, u.prio⟩ ⟨s.irq, s.prio⟩) = true := decide_eq_true (by rw [hq] at hur; have := mt hur.1 (by simp); change 0 ≤ urg u s; omega)
          rw [h1] at c1
          rw [h2] at c2
          clear h1 h2 h3 h4 HN HY hk0 hur hq hpv hu
          go_wp2_with fail
          have k0 : (wr.alloc (.cells #[.int .i64 s.irq, .int .i64 s.prio] 107)).cell? ⟨wr.heap.size, 0, none⟩ = some (.int .i64 s.irq) := by simp
          have k1 : (wr.alloc (.cells #[.int .i64 s.irq, .int .i64 s.prio] 107)).cell? ⟨wr.heap.size, 1, none⟩ = some (.int .i64 s.prio) := by simp
          have k2 : (wr.alloc (.cells #[.int .i64 s.irq, .int .i64 s.prio] 107)).cell? ⟨b, off + j * 2, none⟩ = some (.int .i64 u.irq) := by rw [World.cell?_alloc_lt _ _ _ hbw]; exact g0
          have k3 : (wr.alloc (.cells #[.int .i64 s.irq, .int .i64 s.prio] 107)).cell? ⟨b, off + j * 2 + 1, none⟩ = some (.int .i64 u.prio) := by rw [World.cell?_alloc_lt _ _ _ hbw]; exact g1
          clear g0 g1
          clear f0 f1
          have hs2 := hs.below hb2 hh
          have hw2 := hw.below hb2 hh2
          have hz1 := Nat.le_trans hh hb2.size
          have hz2 := Nat.le_trans hh2 hb2.size
          generalize wr.alloc _ = w2 at hb2 k0 k1 k2 k3 hs2 hw2 hz1 hz2 ⊢
          have e0 := cell_ext k0; have e1 := cell_ext k1; have e2 := cell_ext k2; have e3 := cell_ext k3
          have c4 := fun p => implFind_b _ _ s.irq (ext w2 p) (hs2.below (below_ext w2 p) hz1) (Nat.le_trans hz1 (below_ext w2 p).size)
          have c5 := fun p => waiterIndex_any _ _ s.irq (ext w2 p) ((hw2.take_ hkn).below (below_ext w2 p) hz2) (Nat.le_trans hz2 (below_ext w2 p).size)
          generalize Sl.ix ls s.irq = z at c4 hz0
          generalize findIx (Wt.isI s.irq) (lw.take (j + 1)) = y at c5 hy0
          refine wp_region_ext_all (by kernel_rfl) (by kernel_rfl) ?_
          repeat (go_big_quiet_step (first | (go_at_call 51; exact calls_ext0 (c1 _)) | (go_at_call 52; exact calls_ext0 (c2 _)) | (go_at_call 86; exact calls_ext (c4 _)) | (go_at_call 103; exact calls_ext (c5 _)) | (go_at_call 104; exact calls_ext (compareUrgency_at _ _ _ _ _))))
          refine wpQuiet_nil ?_
          intro w3 b3
          clear e0 e1 e2 e3
          have hb3 := hb2.trans (b3.mono hb2.size)
          go_wp2_with fail
          go_ret
          exact ⟨ret_bool HF.out.symm, hb3⟩
         ·have HF := Lib.hid (HY.out (by simp only [Wt.okAt, h1, h2, h3, h4, hpv, hq]; rfl))
          have hd2 : decide ((0 : Int) ≤ urg ⟨u.irq, u.prio⟩ ⟨s.irq, s.prio⟩) = false := decide_eq_false (by have := hur.2 hq; change ¬ 0 ≤ urg u s; omega)
          rw [h1] at c1
          rw [h2] at c2
          clear h1 h2 h3 h4 HN HY hk0 hur hq hpv hu
          go_wp2_with fail
          have k0 : (wr.alloc (.cells #[.int .i64 s.irq, .int .i64 s.prio] 107)).cell? ⟨wr.heap.size, 0, none⟩ = some (.int .i64 s.irq) := by simp
          have k1 : (wr.alloc (.cells #[.int .i64 s.irq, .int .i64 s.prio] 107)).cell? ⟨wr.heap.size, 1, none⟩ = some (.int .i64 s.prio) := by simp
          have k2 : (wr.alloc (.cells #[.int .i64 s.irq, .int .i64 s.prio] 107)).cell? ⟨b, off + j * 2, none⟩ = some (.int .i64 u.irq) := by rw [World.cell?_alloc_lt _ _ _ hbw]; exact g0
          have k3 : (wr.alloc (.cells #[.int .i64 s.irq, .int .i64 s.prio] 107)).cell? ⟨b, off + j * 2 + 1, none⟩ = some (.int .i64 u.prio) := by rw [World.cell?_alloc_lt _ _ _ hbw]; exact g1
          clear g0 g1
          clear f0 f1
          have hs2 := hs.below hb2 hh
          have hw2 := hw.below hb2 hh2
          have hz1 := Nat.le_trans hh hb2.size
          have hz2 := Nat.le_trans hh2 hb2.size
          generalize wr.alloc _ = w2 at hb2 k0 k1 k2 k3 hs2 hw2 hz1 hz2 ⊢
          have e0 := cell_ext k0; have e1 := cell_ext k1; have e2 := cell_ext k2; have e3 := cell_ext k3
          have c4 := fun p => implFind_b _ _ s.irq (ext w2 p) (hs2.below (below_ext w2 p) hz1) (Nat.le_trans hz1 (below_ext w2 p).size)
          have c5 := fun p => waiterIndex_any _ _ s.irq (ext w2 p) ((hw2.take_ hkn).below (below_ext w2 p) hz2) (Nat.le_trans hz2 (below_ext w2 p).size)
          generalize Sl.ix ls s.irq = z at c4 hz0
          generalize findIx (Wt.isI s.irq) (lw.take (j + 1)) = y at c5 hy0
          refine wp_region_ext_all (by kernel_rfl) (by kernel_rfl) ?_
          repeat (go_big_quiet_step (first | (go_at_call 51; exact calls_ext0 (c1 _)) | (go_at_call 52; exact calls_ext0 (c2 _)) | (go_at_call 86; exact calls_ext (c4 _)) | (go_at_call 103; exact calls_ext (c5 _)) | (go_at_call 104; exact calls_ext (compareUrgency_at _ _ _ _ _))))
          refine wpQuiet_nil ?_
          intro w3 b3
          clear e0 e1 e2 e3
          have hb3 := hb2.trans (b3.mono hb2.size)
          go_wp2_with fail
          go_roundw
          case rel => exact ⟨j + 1 + 1, by omega, by go_num, hb3, HF.out⟩
          case measure => simp [intOf]; omega
   ·have HF := Lib.hid (show Qu.parts ls lw = true from by rw [Qu.parts, HG.out, Wt.upTo_mono (by rw [← H.out]; omega) HE.out]; rfl)
    go_wp2_with fail
    go_ret
    exact ⟨ret_bool HF.out.symm, hb⟩

end Go.Proofs.YtndfmkbpdoohfaaGreat

/- Whether slots and waiting interrupts are those of a queue, in the reference. No condition. -/
namespace Go.Proofs.YtndfmkbpdoohfaaGreat
open Go.RowKit Go.ChangeShapes Go.WideShapes Go.Deep

theorem specFind_w (v : Value) (l : List Sl) (i : Int) (w : World) {lo hi : Nat} (h : Rd Sl.cells 3 w lo hi v l) (hh : hi ≤ w.heap.size) : Calls Tryz.prog 100 #[v, .int .i64 i] w fun e w' => e = .returned (.int .i64 (Sl.ix l i)) ∧ w = w' := l8Find_any v l i w h hh

set_option maxHeartbeats 8000000 in
theorem l9Waiting_any (vs vw : Value) (ls : List Sl) (lw : List Wt) (w : World) {lo hi lo2 hi2 : Nat} (h : Rd Sl.cells 3 w lo hi vs ls) (h2 : Rd Wt.cells 2 w lo2 hi2 vw lw) (hh : hi ≤ w.heap.size) (hh2 : hi2 ≤ w.heap.size) :
  Calls Tryz.prog 97 #[vs, vw] w fun e w' => e = .returned (.bool (Qu.parts ls lw)) ∧ Below w.heap.size w w' := by
 have c0 := fun (W : World) (kb : Below w.heap.size w W) => l8Good_any vs ls W (h.below kb hh) (Nat.le_trans hh kb.size)
 have hs := h
 have hw := h2
 obtain ⟨A0, n0, d0, rfl, H0, hd0, hm0⟩ := h.form
 obtain ⟨A, n, c, rfl, H, hc, hm⟩ := h2.form
 clear h h2
 have c1 := fun x W => l6Irq_any x W
 have c2 := fun x W => l6Prio_any x W
 go_enter Tryz.func97, Tryz.ntmps97
 go_wp2_with fail
 go_loopw [5] (fun i wr => ∃ k : Nat, k ≤ n ∧ k ≤ 9 ∧ i = .int .i64 k ∧ Below w.heap.size w wr ∧ Wt.upTo ls lw k = true) (fun i _ => n - (intOf i).toNat)
 case atStart => exact ⟨0, Nat.zero_le _, by omega, rfl, Below.refl _ _, rfl⟩
 case round =>
  obtain ⟨k, hk, hk9, rfl, hb, he⟩ := hrel
  have HE := Lib.hid he
  clear he
  have hbs := hb.size
  have c0 := c0 wr hb
  by_cases hlt : k < n
  ·have hdn : decide ((k : Int) < (n : Int)) = true := decide_eq_true (by omega)
   by_cases hk8 : k ≤ 8
   ·have hd8 : decide ((k : Int) ≤ 8) = true := decide_eq_true (by omega)
    obtain ⟨b, off, s, rfl, ht, _, hbl, f0, f1⟩ := Wt.get hw hlt hb hh2
    have hb2 := hb.alloc hb.size (.cells #[.int .i64 s.irq, .int .i64 s.prio] 107)
    have HN := Lib.hid (fun hq => Qu.parts_no (ls := ls) (k := k) (w := s) (by rw [← H.out]; exact hlt) ht.out hq)
    have HY := Lib.hid (fun (hq : Wt.okAt ls lw k s = true) => show Wt.upTo ls lw (k + 1) = true from by rw [Wt.upTo_succ ht.out, HE.out, hq]; rfl)
    have hbw : b < wr.heap.size := by omega
    have c1 := c1 s.irq
    have c2 := c2 s.prio
    have c4 := specFind_w _ ls s.irq _ (hs.below hb2 hh) (Nat.le_trans hh hb2.size)
    clear c0
    cases h1 : inB s.irq 0 7
    ·have HF := Lib.hid (HN.out (by simp [Wt.okAt, h1]))
     rw [h1] at c1
     clear h1 HN HY
     go_wp2_with fail
     refine (c1 _).mono ?_; rintro q_ w' ⟨rfl, rfl⟩
     go_wp2_with fail
     go_ret
     exact ⟨ret_bool HF.out.symm, hb2⟩
    ·cases h2 : inB s.prio 0 15
     ·have HF := Lib.hid (HN.out (by simp [Wt.okAt, h2]))
      rw [h1] at c1
      rw [h2] at c2
      clear h1 h2 HN HY
      go_wp2_with fail
      refine (c1 _).mono ?_; rintro q_ w' ⟨rfl, rfl⟩
      go_wp2_with fail
      refine (c2 _).mono ?_; rintro q_ w' ⟨rfl, rfl⟩
      go_wp2_with fail
      go_ret
      exact ⟨ret_bool HF.out.symm, hb2⟩
     ·cases h3 : decide (Sl.ix ls s.irq < 0)
      ·have HF := Lib.hid (HN.out (by simp [Wt.okAt, h3]))
       have hz0 : decide ((0 : Int) ≤ Sl.ix ls s.irq) = true := decide_eq_true (by have := of_decide_eq_false h3; omega)
       generalize Sl.ix ls s.irq = z at c4 hz0
       rw [h1] at c1
       rw [h2] at c2
       clear h1 h2 h3 HN HY
       go_wp2_with fail
       refine (c1 _).mono ?_; rintro q_ w' ⟨rfl, rfl⟩
       go_wp2_with fail
       refine (c2 _).mono ?_; rintro q_ w' ⟨rfl, rfl⟩
       go_wp2_with fail
       refine c4.mono ?_; rintro q_ w' ⟨rfl, rfl⟩
       go_wp2_with fail
       go_ret
       exact ⟨ret_bool HF.out.symm, hb2⟩
      ·have hz0 : decide ((0 : Int) ≤ Sl.ix ls s.irq) = false := decide_eq_false (by have := of_decide_eq_true h3; omega)
       rw [h1] at c1
       rw [h2] at c2
       generalize hix : Sl.ix ls s.irq = z at c4 hz0 h3
       have h3' : decide (Sl.ix ls s.irq < 0) = true := by rw [hix]; exact h3
       clear h3 hix
       have h3 := Lib.hid h3'
       have h1 := Lib.hid h1
       have h2 := Lib.hid h2
       clear h3'
       by_cases hk0 : k = 0
       ·have HP := Lib.hid (show Wt.prevOk lw s k = true from by subst hk0; rfl)
        have hd : decide ((0 : Int) < (k : Int)) = false := by subst hk0; simp
        have hd' : decide (0 < k) = false := by subst hk0; simp
        clear hk0
        go_wp2_with fail
        refine (c1 _).mono ?_; rintro q_ w' ⟨rfl, rfl⟩
        go_wp2_with fail
        refine (c2 _).mono ?_; rintro q_ w' ⟨rfl, rfl⟩
        go_wp2_with fail
        refine c4.mono ?_; rintro q_ w' ⟨rfl, rfl⟩
        go_wp2_with fail
        go_quiet (fail)
        go_wp2_with fail
        have hbI := below_drewN hb2 nq
        have k0 : ((wr.alloc (.cells #[.int .i64 s.irq, .int .i64 s.prio] 107)).drewN nq).cell? ⟨wr.heap.size, 0, none⟩ = some (.int .i64 s.irq) := by simp
        clear f0 f1
        generalize (wr.alloc (.cells #[.int .i64 s.irq, .int .i64 s.prio] 107)).drewN nq = w2 at hbI k0 ⊢
        have zw2 : wr.heap.size < w2.heap.size := World.block_lt_of_cell? w2 _ k0
        generalize wr.heap.size = B at k0 zw2 ⊢
        go_loopw [7] (fun j wz => ∃ m : Nat, m ≤ k ∧ j = .int .i64 m ∧ Below w2.heap.size w2 wz ∧ (lw.take m).any (Wt.isI s.irq) = false) (fun j _ => k - (intOf j).toNat)
        case atStart => exact ⟨0, Nat.zero_le _, rfl, Below.refl _ _, by simp⟩
        case round =>
         obtain ⟨m, hm1, rfl, hbm, hme⟩ := hrel
         have HA := Lib.hid hme
         clear hme
         have hbz := hbI.trans (hbm.mono hbI.size)
         have k2 := (hbm.cell (p := ⟨B, 0, none⟩) zw2).trans k0
         by_cases hmk : m < k
         ·have hdm : decide ((m : Int) < (k : Int)) = true := decide_eq_true (by omega)
          have hmn : (m : Int) < (n : Int) := by omega
          obtain ⟨_, _, u, e, hu, _, _, g0, g1⟩ := Wt.get hw (k := m) (by omega) hbz hh2
          injection e with e
          injection e with e1 e2
          subst e1; subst e2
          by_cases hq : u.irq = s.irq
          ·have HF := Lib.hid (HN.out (by
            have : (lw.take k).any (Wt.isI s.irq) = true := List.any_eq_true.2 ⟨u, List.mem_of_getElem? (by rw [List.getElem?_take, if_pos hmk]; exact hu.out), by simp [Wt.isI, hq]⟩
            simp only [Wt.okAt, this]; simp))
           rw [hq] at g0
           clear hq
           go_wp2_with fail
           go_quiet (fail)
           go_wp2_with fail
           go_ret
           exact ⟨ret_bool HF.out.symm, below_drewN hbz _⟩
          ·have hqd : (u.irq == s.irq) = false := by simp [hq]
           have HF := Lib.hid (show (lw.take (m + 1)).any (Wt.isI s.irq) = false from by rw [List.take_add_one, List.any_append, HA.out, hu.out]; simp [Wt.isI, hq])
           clear hq
           go_wp2_with fail
           go_quiet (fail)
           go_wp2_with fail
           go_roundw
           case rel => exact ⟨m + 1, by omega, by go_num, below_drewN hbm _, HF.out⟩
           case measure => simp [intOf]; omega
         ·have hdm : decide ((m : Int) < (k : Int)) = false := decide_eq_false (by omega)
          have hmk2 : m = k := by omega
          have HM2 := Lib.hid hmk2
          clear hmk2
          have HF := Lib.hid (HY.out (by rw [HM2.out] at HA; have ha := HA.out; have hp := HP.out; simp only [Wt.okAt, h1.out, h2.out, h3.out, ha, hp]; rfl))
          go_wp2_with fail
          go_roundw
          case rel => exact ⟨k + 1, by omega, by omega, by go_num, hbz, HF.out⟩
          case measure => simp [intOf]; omega
       ·obtain ⟨j, hkj⟩ : ∃ j : Nat, k = j + 1 := ⟨k - 1, by omega⟩
        obtain ⟨_, _, u, e, hu, _, _, g0, g1⟩ := Wt.get hw (k := j) (by omega) hb hh2
        injection e with e
        injection e with e1 e2
        subst e1; subst e2
        have hpv : Wt.prevOk lw s k = u.lt s := by subst hkj; simp [Wt.prevOk, hu.out]
        have hjn : (j : Int) < (n : Int) := by omega
        have hkm : (k : Int) - 1 = (j : Int) := by omega
        have hd : decide ((0 : Int) < (k : Int)) = true := decide_eq_true (by omega)
        have hd' : decide (0 < k) = true := decide_eq_true (by omega)
        have c6 := fun W => l8Less_any u.prio u.irq s.prio s.irq W
        clear hkj hk0
        cases hq : Wt.lt ⟨u.irq, u.prio⟩ ⟨s.irq, s.prio⟩
        ·have HF := Lib.hid (HN.out (by have hq2 : u.lt s = false := hq; simp only [Wt.okAt, hpv, hq2]; simp))
         rw [hq] at c6
         clear hq hpv hu
         go_wp2_with fail
         refine (c1 _).mono ?_; rintro q_ w' ⟨rfl, rfl⟩
         go_wp2_with fail
         refine (c2 _).mono ?_; rintro q_ w' ⟨rfl, rfl⟩
         go_wp2_with fail
         refine c4.mono ?_; rintro q_ w' ⟨rfl, rfl⟩
         go_wp2_with fail
         go_quiet ((go_at_call 132; refine Calls.quiet_of_same ((c6 _).mono fun _ _ h => ⟨h.1, h.2.symm⟩)))
         go_wp2_with fail
         go_ret
         exact ⟨ret_bool HF.out.symm, below_drewN hb2 _⟩
        ·have HP := Lib.hid (show Wt.prevOk lw s k = true from by rw [hpv]; exact hq)
         rw [hq] at c6
         clear hq hpv hu
         go_wp2_with fail
         refine (c1 _).mono ?_; rintro q_ w' ⟨rfl, rfl⟩
         go_wp2_with fail
         refine (c2 _).mono ?_; rintro q_ w' ⟨rfl, rfl⟩
         go_wp2_with fail
         refine c4.mono ?_; rintro q_ w' ⟨rfl, rfl⟩
         go_wp2_with fail
         go_quiet ((go_at_call 132; refine Calls.quiet_of_same ((c6 _).mono fun _ _ h => ⟨h.1, h.2.symm⟩)))
         go_wp2_with fail
         clear hkm g0 g1
         have hbI := below_drewN hb2 nq
         have k0 : ((wr.alloc (.cells #[.int .i64 s.irq, .int .i64 s.prio] 107)).drewN nq).cell? ⟨wr.heap.size, 0, none⟩ = some (.int .i64 s.irq) := by simp
         clear f0 f1
         generalize (wr.alloc (.cells #[.int .i64 s.irq, .int .i64 s.prio] 107)).drewN nq = w2 at hbI k0 ⊢
         have zw2 : wr.heap.size < w2.heap.size := World.block_lt_of_cell? w2 _ k0
         generalize wr.heap.size = B at k0 zw2 ⊢
         go_loopw [7] (fun j wz => ∃ m : Nat, m ≤ k ∧ j = .int .i64 m ∧ Below w2.heap.size w2 wz ∧ (lw.take m).any (Wt.isI s.irq) = false) (fun j _ => k - (intOf j).toNat)
         case atStart => exact ⟨0, Nat.zero_le _, rfl, Below.refl _ _, by simp⟩
         case round =>
          obtain ⟨m, hm1, rfl, hbm, hme⟩ := hrel
          have HA := Lib.hid hme
          clear hme
          have hbz := hbI.trans (hbm.mono hbI.size)
          have k2 := (hbm.cell (p := ⟨B, 0, none⟩) zw2).trans k0
          by_cases hmk : m < k
          ·have hdm : decide ((m : Int) < (k : Int)) = true := decide_eq_true (by omega)
           have hmn : (m : Int) < (n : Int) := by omega
           obtain ⟨_, _, u, e, hu, _, _, g0, g1⟩ := Wt.get hw (k := m) (by omega) hbz hh2
           injection e with e
           injection e with e1 e2
           subst e1; subst e2
           by_cases hq : u.irq = s.irq
           ·have HF := Lib.hid (HN.out (by
             have : (lw.take k).any (Wt.isI s.irq) = true := List.any_eq_true.2 ⟨u, List.mem_of_getElem? (by rw [List.getElem?_take, if_pos hmk]; exact hu.out), by simp [Wt.isI, hq]⟩
             simp only [Wt.okAt, this]; simp))
            rw [hq] at g0
            clear hq
            go_wp2_with fail
            go_quiet (fail)
            go_wp2_with fail
            go_ret
            exact ⟨ret_bool HF.out.symm, below_drewN hbz _⟩
           ·have hqd : (u.irq == s.irq) = false := by simp [hq]
            have HF := Lib.hid (show (lw.take (m + 1)).any (Wt.isI s.irq) = false from by rw [List.take_add_one, List.any_append, HA.out, hu.out]; simp [Wt.isI, hq])
            clear hq
            go_wp2_with fail
            go_quiet (fail)
            go_wp2_with fail
            go_roundw
            case rel => exact ⟨m + 1, by omega, by go_num, below_drewN hbm _, HF.out⟩
            case measure => simp [intOf]; omega
          ·have hdm : decide ((m : Int) < (k : Int)) = false := decide_eq_false (by omega)
           have hmk2 : m = k := by omega
           have HM2 := Lib.hid hmk2
           clear hmk2
           have HF := Lib.hid (HY.out (by rw [HM2.out] at HA; have ha := HA.out; have hp := HP.out; simp only [Wt.okAt, h1.out, h2.out, h3.out, ha, hp]; rfl))
           go_wp2_with fail
           go_roundw
           case rel => exact ⟨k + 1, by omega, by omega, by go_num, hbz, HF.out⟩
           case measure => simp [intOf]; omega
   ·have hd8 : decide ((k : Int) ≤ 8) = false := decide_eq_false (by omega)
    have HF := Lib.hid (show Qu.parts ls lw = false from by
     cases hq : Qu.parts ls lw
     ·rfl
     ·have := Qu.parts_len hq; have := H.out; omega)
    have hn8 : decide ((n : Int) ≤ 8) = false := decide_eq_false (by omega)
    generalize Sl.good ls = g at c0
    cases g
    all_goals
     go_wp2_with fail
     refine c0.mono ?_; rintro q_ w1 ⟨rfl, b1⟩
     go_wp2_with fail
     go_ret
     exact ⟨ret_bool HF.out.symm, hb.trans (b1.mono hb.size)⟩
  ·have hdn : decide ((k : Int) < (n : Int)) = false := decide_eq_false (by omega)
   have hu : Wt.upTo ls lw lw.length = true := Wt.upTo_mono (by rw [← H.out]; omega) HE.out
   have hl8 := Wt.upTo_len hu
   have hn8 : decide ((n : Int) ≤ 8) = true := decide_eq_true (by rw [H.out]; omega)
   have HF := Lib.hid (show Qu.parts ls lw = Sl.good ls from by rw [Qu.parts, hu, Bool.and_true])
   generalize Sl.good ls = g at c0 HF
   clear hu hl8
   cases g
   all_goals
    go_wp2_with fail
    refine c0.mono ?_; rintro q_ w1 ⟨rfl, b1⟩
    go_wp2_with fail
    go_ret
    exact ⟨ret_bool HF.out.symm, hb.trans (b1.mono hb.size)⟩

end Go.Proofs.YtndfmkbpdoohfaaGreat

/- The slot of the least urgent pending interrupt. No condition. -/
namespace Go.Proofs.YtndfmkbpdoohfaaGreat

def Sl.bn (l : List Sl) : Int := Sl.best false l l.length
theorem Sl.bn_cases (l : List Sl) : Sl.bn l = -1 ∨ ∃ (k : Nat) (s : Sl), Sl.bn l = k ∧ k < l.length ∧ l[k]? = some s ∧ s.state = 1 :=
 (Sl.best_bd false l l.length (Nat.le_refl _)).imp id fun ⟨k, s, h1, h2, h3, h4⟩ => ⟨k, s, h1, h2, h3, h4⟩

end Go.Proofs.YtndfmkbpdoohfaaGreat

/- Whether a queue is settled and valid, in the program and in the reference. Condition (the program's inner function): valid slots. -/
namespace Go.Proofs.YtndfmkbpdoohfaaGreat
open Go.RowKit Go.ChangeShapes Go.WideShapes Go.Deep

def Qu.settled (ls : List Sl) (lw : List Wt) : Bool := match lw with
 | [] => true
 | w0 :: _ => decide (Sl.fx ls < 0) && (decide (Sl.bn ls < 0) || (Sl.at_ ls (Sl.bn ls)).wt.lt w0)
theorem Qu.settled_at {ls : List Sl} {lw : List Wt} {w0 : Wt} (h : lw[0]? = some w0) : Qu.settled ls lw = (decide (Sl.fx ls < 0) && (decide (Sl.bn ls < 0) || (Sl.at_ ls (Sl.bn ls)).wt.lt w0)) := by
 cases lw with
 | nil => cases h
 | cons x l => simp at h; subst h; rfl
def Qu.good (ls : List Sl) (lw : List Wt) : Bool := Qu.parts ls lw && Qu.settled ls lw

set_option maxHeartbeats 2000000 in
theorem l9Settled_any (vs vw : Value) (ls : List Sl) (lw : List Wt) (w : World) {lo hi lo2 hi2 : Nat} (h : Rd Sl.cells 3 w lo hi vs ls) (h2 : Rd Wt.cells 2 w lo2 hi2 vw lw) (hh : hi ≤ w.heap.size) (hh2 : hi2 ≤ w.heap.size) :
  Calls Tryz.prog 98 #[.agg #[vs, vw]] w fun e w' => e = .returned (.bool (Qu.settled ls lw)) ∧ Below w.heap.size w w' := by
 have b0 := (Below.refl w.heap.size w).alloc (Nat.le_refl _) (.cells #[vs, vw] 28)
 have z0 : (w.alloc (.cells #[vs, vw] 28)).heap.size = w.heap.size + 1 := by simp
 have k0 : (w.alloc (.cells #[vs, vw] 28)).cell? ⟨w.heap.size, 0, none⟩ = some vs := by simp
 have k1 : (w.alloc (.cells #[vs, vw] 28)).cell? ⟨w.heap.size, 1, none⟩ = some vw := by simp
 have hs := h.below b0 hh
 have hw := h2.below b0 hh2
 have hv := h.form
 have hv2 := h2.form
 clear h h2
 obtain ⟨A0, n0, d0, rfl, H0, hd0, hm0⟩ := hv
 obtain ⟨A, n, c, rfl, H, hc, hm⟩ := hv2
 by_cases hn0 : n = 0
 ·have HF := Lib.hid (show Qu.settled ls lw = true from by
   have : lw = [] := List.eq_nil_of_length_eq_zero (by rw [← H.out, hn0])
   subst this; rfl)
  subst hn0
  go_enter Tryz.func98, Tryz.ntmps98
  go_wp2_with fail
  go_ret
  exact ⟨ret_bool HF.out.symm, b0⟩
 ·have hnd : ((n : Int) == 0) = false := by simp; omega
  have hn1 : (0 : Int) < (n : Int) := by omega
  go_enter Tryz.func98, Tryz.ntmps98
  go_wp2_with fail
  generalize w.alloc _ = w0 at *
  have zh : hi ≤ w0.heap.size := by omega
  have zh2 : hi2 ≤ w0.heap.size := by omega
  have c1 := specFree_b _ ls w0 hs zh
  rcases find_cases Sl.free ls with ⟨hf, _⟩ | ⟨k, s, hf, _, _, _⟩
  ·change Sl.fx ls = -1 at hf
   obtain ⟨b, off, t, rfl, ht, _, hbl, _, _⟩ := Wt.get hw (k := 0) (by omega) (Below.refl w0.heap.size w0) zh2
   have hS := Qu.settled_at (ls := ls) ht.out
   rw [hf] at c1
   refine c1.mono ?_; rintro q_ w1 ⟨rfl, b1⟩
   have zw1 := b1.size
   have hb1 := b0.trans (b1.mono (by omega))
   replace k0 := (b1.cell (p := ⟨w.heap.size, 0, none⟩) (by show w.heap.size < _; omega)).trans k0
   replace k1 := (b1.cell (p := ⟨w.heap.size, 1, none⟩) (by show w.heap.size < _; omega)).trans k1
   have hs1 := hs.below b1 zh
   have hw1 := hw.below b1 zh2
   have c2 := l8Best_any _ ls false w1 hs1 (by omega)
   change Calls _ _ _ _ (fun e w' => e = .returned (.int .i64 (Sl.bn ls)) ∧ Below w1.heap.size w1 w') at c2
   clear hs hw c1 b1
   rcases Sl.bn_cases ls with hb | ⟨k, s, hb, hk, hsk, _⟩
   ·have HF := Lib.hid (show Qu.settled ls lw = true from by rw [hS, hf, hb]; rfl)
    rw [hb] at c2
    clear hS hf hb
    go_wp2_with fail
    refine c2.mono ?_; rintro q_ w2 ⟨rfl, b2⟩
    replace k0 := (b2.cell (p := ⟨w.heap.size, 0, none⟩) (by show w.heap.size < _; omega)).trans k0
    replace k1 := (b2.cell (p := ⟨w.heap.size, 1, none⟩) (by show w.heap.size < _; omega)).trans k1
    go_wp2_with fail
    go_quiet (fail)
    go_wp2_with fail
    go_ret
    exact ⟨ret_bool HF.out.symm, below_drewN (hb1.trans (b2.mono (by omega))) _⟩
   ·have hS2 : Qu.settled ls lw = Wt.lt ⟨s.irq, s.prio⟩ ⟨t.irq, t.prio⟩ := by
     have h3 : decide ((k : Int) < 0) = false := by simp
     rw [hS, hf, hb, Sl.at_get hsk, h3]
     rfl
    have HF := Lib.hid hS2
    have HT := Lib.hid hsk
    have hkn : k < n0 := by rw [H0.out]; exact hk
    have hkd : decide ((k : Int) < 0) = false := by simp
    have hki : (k : Int) < (n0 : Int) := by omega
    rw [hb] at c2
    clear hS hf hb hS2 hk hsk
    have c6 := fun W => l8Less_any s.prio s.irq t.prio t.irq W
    generalize Wt.lt ⟨s.irq, s.prio⟩ ⟨t.irq, t.prio⟩ = y at c6 HF
    go_wp2_with fail
    refine c2.mono ?_; rintro q_ w2 ⟨rfl, b2⟩
    have zw2 := b2.size
    have hb2 := hb1.trans (b2.mono (by omega))
    replace k0 := (b2.cell (p := ⟨w.heap.size, 0, none⟩) (by show w.heap.size < _; omega)).trans k0
    replace k1 := (b2.cell (p := ⟨w.heap.size, 1, none⟩) (by show w.heap.size < _; omega)).trans k1
    obtain ⟨b', off', s', rfl, hs', _, _, f0, f1, f2⟩ := Sl.get hs1 hkn b2 (by omega)
    obtain rfl := Option.some.inj (HT.out.symm.trans hs'.out)
    obtain ⟨_, _, t', e, ht', _, _, g0, g1⟩ := Wt.get hw1 (k := 0) (by omega) b2 (by omega)
    injection e with e
    injection e with e1 e2
    subst e1; subst e2
    obtain rfl := Option.some.inj (ht.out.symm.trans ht'.out)
    simp only [Nat.zero_mul, Nat.add_zero] at g0 g1
    clear c2 b2
    go_wp2_with fail
    go_quiet ((go_at_call 132; refine Calls.quiet_of_same ((c6 _).mono fun _ _ h => ⟨h.1, h.2.symm⟩)))
    go_wp2_with fail
    go_ret
    exact ⟨ret_bool HF.out.symm, below_drewN hb2 _⟩
  ·change Sl.fx ls = k at hf
   obtain ⟨t, ht⟩ : ∃ t, lw[0]? = some t := ⟨_, List.getElem?_eq_getElem (by rw [← H.out]; omega)⟩
   have HF := Lib.hid (show Qu.settled ls lw = false from by rw [Qu.settled_at ht, hf, show decide ((k : Int) < 0) = false from by simp]; rfl)
   rw [hf] at c1
   clear hf ht
   refine c1.mono ?_; rintro q_ w1 ⟨rfl, b1⟩
   go_wp2_with fail
   go_ret
   exact ⟨ret_bool HF.out.symm, b0.trans (b1.mono (by omega))⟩

set_option maxHeartbeats 4000000 in
theorem isSettled_any (vs vw : Value) (ls : List Sl) (lw : List Wt) (w : World) {lo hi lo2 hi2 : Nat} (h : Rd Sl.cells 3 w lo hi vs ls) (h2 : Rd Wt.cells 2 w lo2 hi2 vw lw) (hh : hi ≤ w.heap.size) (hh2 : hi2 ≤ w.heap.size) (hg : Sl.good ls = true) :
  Calls Tryz.prog 82 #[.agg #[vs, vw]] w fun e w' => e = .returned (.bool (Qu.settled ls lw)) ∧ Below w.heap.size w w' := by
 have b0 := (Below.refl w.heap.size w).alloc (Nat.le_refl _) (.cells #[vs, vw] 28)
 have z0 : (w.alloc (.cells #[vs, vw] 28)).heap.size = w.heap.size + 1 := by simp
 have k0 : (w.alloc (.cells #[vs, vw] 28)).cell? ⟨w.heap.size, 0, none⟩ = some vs := by simp
 have k1 : (w.alloc (.cells #[vs, vw] 28)).cell? ⟨w.heap.size, 1, none⟩ = some vw := by simp
 have hs := h.below b0 hh
 have hw := h2.below b0 hh2
 have hv := h.form
 have hv2 := h2.form
 clear h h2
 obtain ⟨A0, n0, d0, rfl, H0, hd0, hm0⟩ := hv
 obtain ⟨A, n, c, rfl, H, hc, hm⟩ := hv2
 by_cases hn0 : n = 0
 ·have HF := Lib.hid (show Qu.settled ls lw = true from by
   have : lw = [] := List.eq_nil_of_length_eq_zero (by rw [← H.out, hn0])
   subst this; rfl)
  subst hn0
  go_enter Tryz.func82, Tryz.ntmps82
  go_wp2_with fail
  go_ret
  exact ⟨ret_bool HF.out.symm, b0⟩
 ·have hnd : ((n : Int) == 0) = false := by simp; omega
  have hn1 : (0 : Int) < (n : Int) := by omega
  go_enter Tryz.func82, Tryz.ntmps82
  go_wp2_with fail
  generalize w.alloc _ = w0 at *
  have zh : hi ≤ w0.heap.size := by omega
  have zh2 : hi2 ≤ w0.heap.size := by omega
  have c2 := pendingSlot_any _ ls false w0 hs zh hg
  change Calls _ _ _ _ (fun e w' => e = .returned (.int .i64 (Sl.bn ls)) ∧ Below w0.heap.size w0 w') at c2
  clear hg
  obtain ⟨b, off, t, rfl, ht, _, hbl, _, _⟩ := Wt.get hw (k := 0) (by omega) (Below.refl w0.heap.size w0) zh2
  have hS := Qu.settled_at (ls := ls) ht.out
  have hbn := Sl.bn_cases ls
  have hfx : Sl.fx ls = -1 ∨ ∃ k : Nat, Sl.fx ls = k := by
   rcases find_cases Sl.free ls with ⟨hf, _⟩ | ⟨k, s, hf, _⟩
   ·exact .inl hf
   ·exact .inr ⟨k, hf⟩
  have HS := Lib.hid hS
  have HB := Lib.hid hbn
  have HX := Lib.hid hfx
  clear hS hbn hfx
  rcases HB.out with hb | ⟨k, s, hb, hk, hsk, _⟩
  ·rw [hb] at c2
   refine c2.mono ?_; rintro q_ w1 ⟨rfl, b1⟩
   have zw1 := b1.size
   have hb1 := b0.trans (b1.mono (by omega))
   replace k0 := (b1.cell (p := ⟨w.heap.size, 0, none⟩) (by show w.heap.size < _; omega)).trans k0
   replace k1 := (b1.cell (p := ⟨w.heap.size, 1, none⟩) (by show w.heap.size < _; omega)).trans k1
   have hs1 := hs.below b1 zh
   have c1 := fun p => implFree_b _ ls (ext w1 p) (hs1.below (below_ext w1 p) (by omega)) (Nat.le_trans (show hi ≤ w1.heap.size by omega) (below_ext w1 p).size)
   have hbv := hb
   clear hs hw c2 b1 hb
   rcases HX.out with hf | ⟨k, hf⟩
   ·have HF := Lib.hid (show Qu.settled ls lw = true from by rw [HS.out, hf, hbv]; rfl)
    rw [hf] at c1
    clear hf hbv
    go_wp2_with fail
    have e0 := cell_ext k0; have e1 := cell_ext k1
    refine wp_region_ext_all (by kernel_rfl) (by kernel_rfl) ?_
    repeat (go_big_quiet_step ((go_at_call 106; exact calls_ext (c1 _))))
    refine wpQuiet_nil ?_
    intro w3 b3
    clear e0 e1
    go_wp2_with fail
    go_ret
    exact ⟨ret_bool HF.out.symm, hb1.trans (b3.mono (by omega))⟩
   ·have HF := Lib.hid (show Qu.settled ls lw = false from by rw [HS.out, hf, show decide ((k : Int) < 0) = false from by simp]; rfl)
    have hkd : decide ((k : Int) < 0) = false := by simp
    rw [hf] at c1
    clear hf hbv
    go_wp2_with fail
    have e0 := cell_ext k0; have e1 := cell_ext k1
    refine wp_region_ext_all (by kernel_rfl) (by kernel_rfl) ?_
    repeat (go_big_quiet_step ((go_at_call 106; exact calls_ext (c1 _))))
    refine wpQuiet_nil ?_
    intro w3 b3
    clear e0 e1
    go_wp2_with fail
    go_ret
    exact ⟨ret_bool HF.out.symm, hb1.trans (b3.mono (by omega))⟩
  ·have hkn : k < n0 := by rw [H0.out]; exact hk
   have hkd : decide ((k : Int) < 0) = false := by simp
   have hki : (k : Int) < (n0 : Int) := by omega
   have HT := Lib.hid hsk
   rw [hb] at c2
   refine c2.mono ?_; rintro q_ w1 ⟨rfl, b1⟩
   have zw1 := b1.size
   have hb1 := b0.trans (b1.mono (by omega))
   replace k0 := (b1.cell (p := ⟨w.heap.size, 0, none⟩) (by show w.heap.size < _; omega)).trans k0
   replace k1 := (b1.cell (p := ⟨w.heap.size, 1, none⟩) (by show w.heap.size < _; omega)).trans k1
   have hs1 := hs.below b1 zh
   have c1 := fun p => implFree_b _ ls (ext w1 p) (hs1.below (below_ext w1 p) (by omega)) (Nat.le_trans (show hi ≤ w1.heap.size by omega) (below_ext w1 p).size)
   obtain ⟨b', off', s', rfl, hs', _, _, f0, f1, f2⟩ := Sl.get hs hkn b1 zh
   obtain rfl := Option.some.inj (HT.out.symm.trans hs'.out)
   obtain ⟨_, _, t', e, ht', _, _, g0, g1⟩ := Wt.get hw (k := 0) (by omega) b1 zh2
   injection e with e
   injection e with e1 e2
   subst e1; subst e2
   obtain rfl := Option.some.inj (ht.out.symm.trans ht'.out)
   simp only [Nat.zero_mul, Nat.add_zero] at g0 g1
   have hat := Sl.at_get HT.out
   have HV := Lib.hid hb
   have HA := Lib.hid hat
   clear hs hw c2 b1 hb hat hk hsk
   have e0 := cell_ext k0; have e1 := cell_ext k1; have e2 := cell_ext f0; have e3 := cell_ext f1; have e4 := cell_ext f2; have e5 := cell_ext g0; have e6 := cell_ext g1
   rcases HX.out with hf | ⟨k2, hf⟩
   ·have hlt := urg_pos ⟨t.irq, t.prio⟩ ⟨s.irq, s.prio⟩
    have HF := Lib.hid (show Qu.settled ls lw = Wt.lt ⟨s.irq, s.prio⟩ ⟨t.irq, t.prio⟩ from by rw [HS.out, hf, HV.out, HA.out, show decide ((k : Int) < 0) = false from by simp]; rfl)
    have hd : decide ((0 : Int) < urg ⟨t.irq, t.prio⟩ ⟨s.irq, s.prio⟩) = Wt.lt ⟨s.irq, s.prio⟩ ⟨t.irq, t.prio⟩ := by
     cases hq : Wt.lt ⟨s.irq, s.prio⟩ ⟨t.irq, t.prio⟩
     ·rw [hq] at hlt; exact decide_eq_false (fun h => by simpa using hlt.1 h)
     ·exact decide_eq_true (hlt.2 hq)
    rw [hf] at c1
    clear hf hlt
    go_wp2_with fail
    refine wp_region_ext_all (by kernel_rfl) (by kernel_rfl) ?_
    repeat (go_big_quiet_step (first | (go_at_call 106; exact calls_ext (c1 _)) | (go_at_call 107; exact calls_ext (waiterOf_at _ _ _ _)) | (go_at_call 104; exact calls_ext (compareUrgency_at _ _ _ _ _))))
    refine wpQuiet_nil ?_
    intro w3 b3
    clear e0 e1 e2 e3 e4 e5 e6
    go_wp2_with fail
    go_ret
    exact ⟨ret_bool (by rw [HF.out]), hb1.trans (b3.mono (by omega))⟩
   ·have HF := Lib.hid (show Qu.settled ls lw = false from by rw [HS.out, hf, show decide ((k2 : Int) < 0) = false from by simp]; rfl)
    have hkd2 : decide ((k2 : Int) < 0) = false := by simp
    rw [hf] at c1
    clear hf
    go_wp2_with fail
    refine wp_region_ext_all (by kernel_rfl) (by kernel_rfl) ?_
    repeat (go_big_quiet_step ((go_at_call 106; exact calls_ext (c1 _))))
    refine wpQuiet_nil ?_
    intro w3 b3
    clear e0 e1 e2 e3 e4 e5 e6
    go_wp2_with fail
    go_ret
    exact ⟨ret_bool HF.out.symm, hb1.trans (b3.mono (by omega))⟩

theorem l9Good_any (vs vw : Value) (ls : List Sl) (lw : List Wt) (w : World) {lo hi lo2 hi2 : Nat} (h : Rd Sl.cells 3 w lo hi vs ls) (h2 : Rd Wt.cells 2 w lo2 hi2 vw lw) (hh : hi ≤ w.heap.size) (hh2 : hi2 ≤ w.heap.size) :
  Calls Tryz.prog 71 #[.agg #[vs, vw]] w fun e w' => e = .returned (.bool (Qu.good ls lw)) ∧ Below w.heap.size w w' := by
 have b0 := (Below.refl w.heap.size w).alloc (Nat.le_refl _) (.cells #[vs, vw] 28)
 have z0 : (w.alloc (.cells #[vs, vw] 28)).heap.size = w.heap.size + 1 := by simp
 have k0 : (w.alloc (.cells #[vs, vw] 28)).cell? ⟨w.heap.size, 0, none⟩ = some vs := by simp
 have k1 : (w.alloc (.cells #[vs, vw] 28)).cell? ⟨w.heap.size, 1, none⟩ = some vw := by simp
 have hs := h.below b0 hh
 have hw := h2.below b0 hh2
 have hv := h.form
 have hv2 := h2.form
 clear h h2
 obtain ⟨A0, n0, d0, rfl, H0, hd0, hm0⟩ := hv
 obtain ⟨A, n, c, rfl, H, hc, hm⟩ := hv2
 go_enter Tryz.func71, Tryz.ntmps71
 go_wp2_with fail
 generalize w.alloc _ = w0 at *
 have c1 := l9Waiting_any _ _ ls lw w0 hs hw (by omega) (by omega)
 have c2 := fun (W : World) (kb : Below w0.heap.size w0 W) => l9Settled_any _ _ ls lw W (hs.below kb (by omega)) (hw.below kb (by omega)) (by have := kb.size; omega) (by have := kb.size; omega)
 have HG := Lib.hid (show Qu.good ls lw = (Qu.parts ls lw && Qu.settled ls lw) from rfl)
 generalize Qu.parts ls lw = p at c1 HG
 generalize Qu.settled ls lw = q at c2 HG
 cases p
 ·refine c1.mono ?_; rintro q_ w1 ⟨rfl, b1⟩
  replace k0 := (b1.cell (p := ⟨w.heap.size, 0, none⟩) (by show w.heap.size < _; omega)).trans k0
  replace k1 := (b1.cell (p := ⟨w.heap.size, 1, none⟩) (by show w.heap.size < _; omega)).trans k1
  go_wp2_with fail
  go_ret
  exact ⟨ret_bool (by rw [HG.out]; rfl), b0.trans (b1.mono (by omega))⟩
 ·refine c1.mono ?_; rintro q_ w1 ⟨rfl, b1⟩
  replace k0 := (b1.cell (p := ⟨w.heap.size, 0, none⟩) (by show w.heap.size < _; omega)).trans k0
  replace k1 := (b1.cell (p := ⟨w.heap.size, 1, none⟩) (by show w.heap.size < _; omega)).trans k1
  go_wp2_with fail
  refine (c2 _ b1).mono ?_; rintro q_ w2 ⟨rfl, b2⟩
  go_wp2_with fail
  go_ret
  exact ⟨ret_bool (by rw [HG.out]; rfl), b0.trans ((b1.trans (b2.mono b1.size)).mono (by omega))⟩
theorem implIsQueue_any (vs vw : Value) (ls : List Sl) (lw : List Wt) (w : World) {lo hi lo2 hi2 : Nat} (h : Rd Sl.cells 3 w lo hi vs ls) (h2 : Rd Wt.cells 2 w lo2 hi2 vw lw) (hh : hi ≤ w.heap.size) (hh2 : hi2 ≤ w.heap.size) :
  Calls Tryz.prog 39 #[.agg #[vs, vw]] w fun e w' => e = .returned (.bool (Qu.good ls lw)) ∧ Below w.heap.size w w' := by
 have b0 := (Below.refl w.heap.size w).alloc (Nat.le_refl _) (.cells #[vs, vw] 28)
 have z0 : (w.alloc (.cells #[vs, vw] 28)).heap.size = w.heap.size + 1 := by simp
 have k0 : (w.alloc (.cells #[vs, vw] 28)).cell? ⟨w.heap.size, 0, none⟩ = some vs := by simp
 have k1 : (w.alloc (.cells #[vs, vw] 28)).cell? ⟨w.heap.size, 1, none⟩ = some vw := by simp
 have hs := h.below b0 hh
 have hw := h2.below b0 hh2
 have hv := h.form
 have hv2 := h2.form
 clear h h2
 obtain ⟨A0, n0, d0, rfl, H0, hd0, hm0⟩ := hv
 obtain ⟨A, n, c, rfl, H, hc, hm⟩ := hv2
 go_enter Tryz.func39, Tryz.ntmps39
 go_wp2_with fail
 generalize w.alloc _ = w0 at *
 have c1 := areParts_any _ _ ls lw w0 hs hw (by omega) (by omega)
 have c2 := fun (hg : Sl.good ls = true) (W : World) (kb : Below w0.heap.size w0 W) => isSettled_any _ _ ls lw W (hs.below kb (by omega)) (hw.below kb (by omega)) (by have := kb.size; omega) (by have := kb.size; omega) hg
 have HG := Lib.hid (show Qu.good ls lw = (Qu.parts ls lw && Qu.settled ls lw) from rfl)
 cases hp : Qu.parts ls lw
 ·rw [hp] at c1 HG
  clear hp c2
  refine c1.mono ?_; rintro q_ w1 ⟨rfl, b1⟩
  replace k0 := (b1.cell (p := ⟨w.heap.size, 0, none⟩) (by show w.heap.size < _; omega)).trans k0
  replace k1 := (b1.cell (p := ⟨w.heap.size, 1, none⟩) (by show w.heap.size < _; omega)).trans k1
  go_wp2_with fail
  go_ret
  exact ⟨ret_bool (by rw [HG.out]; rfl), b0.trans (b1.mono (by omega))⟩
 ·have c2 := c2 (Qu.parts_get hp).1
  rw [hp] at c1 HG
  clear hp
  generalize Qu.settled ls lw = q at c2 HG
  refine c1.mono ?_; rintro q_ w1 ⟨rfl, b1⟩
  replace k0 := (b1.cell (p := ⟨w.heap.size, 0, none⟩) (by show w.heap.size < _; omega)).trans k0
  replace k1 := (b1.cell (p := ⟨w.heap.size, 1, none⟩) (by show w.heap.size < _; omega)).trans k1
  go_wp2_with fail
  refine (c2 _ b1).mono ?_; rintro q_ w2 ⟨rfl, b2⟩
  go_wp2_with fail
  go_ret
  exact ⟨ret_bool (by rw [HG.out]; rfl), b0.trans ((b1.trans (b2.mono b1.size)).mono (by omega))⟩

end Go.Proofs.YtndfmkbpdoohfaaGreat

/- Where a waiting interrupt comes to stand among others: plain lemmas. No condition. -/
namespace Go.Proofs.YtndfmkbpdoohfaaGreat

/-- where x comes to stand: behind all leading ones that are more urgent -/
def Wt.pos (x : Wt) : List Wt → Nat
 | [] => 0
 | y :: l => if y.lt x then Wt.pos x l + 1 else 0
def Wt.ins (l : List Wt) (x : Wt) : List Wt := l.take (Wt.pos x l) ++ x :: l.drop (Wt.pos x l)
theorem Wt.pos_le (x : Wt) : ∀ l : List Wt, Wt.pos x l ≤ l.length
 | [] => Nat.le_refl _
 | y :: l => by have := Wt.pos_le x l; simp only [Wt.pos, List.length_cons]; split <;> omega
theorem Wt.pos_eq (x : Wt) : ∀ (l : List Wt) (k : Nat), k ≤ l.length → (∀ (j : Nat) (y : Wt), j < k → l[j]? = some y → y.lt x = true) → (∀ y : Wt, l[k]? = some y → y.lt x = false) → Wt.pos x l = k
 | [], k, hk, _, _ => by simp at hk; simp [Wt.pos, hk]
 | z :: l, 0, _, _, h2 => by simp [Wt.pos, h2 z (by simp)]
 | z :: l, k + 1, hk, h1, h2 => by
  have := Wt.pos_eq x l k (by simpa using hk) (fun j y hj hy => h1 (j + 1) y (by omega) (by simpa using hy)) (fun y hy => h2 y (by simpa using hy))
  simp [Wt.pos, h1 0 z (by omega) (by simp), this]
theorem Wt.ins_len (l : List Wt) (x : Wt) : (Wt.ins l x).length = l.length + 1 := by
 have := Wt.pos_le x l
 simp only [Wt.ins, List.length_append, List.length_take, List.length_cons, List.length_drop]; omega

theorem Wt.ins_nil (x : Wt) : Wt.ins [] x = [x] := rfl
theorem Wt.ins_cons (y x : Wt) (l : List Wt) : Wt.ins (y :: l) x = if y.lt x then y :: Wt.ins l x else x :: y :: l := by
 unfold Wt.ins; rw [Wt.pos]
 by_cases h : y.lt x = true
 ·simp [h]
 ·simp [h]
theorem Wt.ins_mem {y x : Wt} : ∀ {l : List Wt}, y ∈ Wt.ins l x ↔ y = x ∨ y ∈ l
 | [] => by simp [Wt.ins_nil]
 | z :: l => by
  have ih := Wt.ins_mem (y := y) (x := x) (l := l)
  rw [Wt.ins_cons]
  split
  ·rw [List.mem_cons, ih, List.mem_cons]
   constructor
   ·rintro (h | h | h)
    ·exact .inr (.inl h)
    ·exact .inl h
    ·exact .inr (.inr h)
   ·rintro (h | h | h)
    ·exact .inr (.inl h)
    ·exact .inl h
    ·exact .inr (.inr h)
  ·simp
theorem Wt.lt_iff (x y : Wt) : x.lt y = true ↔ x.prio < y.prio ∨ x.prio = y.prio ∧ x.irq < y.irq := by simp [Wt.lt]
theorem Wt.lt_trans {x y z : Wt} (h : x.lt y = true) (k : y.lt z = true) : x.lt z = true := by rw [Wt.lt_iff] at *; omega
theorem Wt.lt_irrefl (x : Wt) : x.lt x = false := by rw [Bool.eq_false_iff, ne_eq, Wt.lt_iff]; omega
theorem Wt.lt_other {x y : Wt} (h : ¬ x.lt y = true) (hi : x.irq ≠ y.irq) : y.lt x = true := by rw [Wt.lt_iff] at *; omega
theorem Wt.ins_sorted {x : Wt} : ∀ {l : List Wt}, l.Pairwise (fun a b => a.lt b = true) → (∀ y ∈ l, y.irq ≠ x.irq) → (Wt.ins l x).Pairwise (fun a b => a.lt b = true)
 | [], _, _ => by simp [Wt.ins_nil]
 | y :: l, h, hx => by
  rw [List.pairwise_cons] at h
  rw [Wt.ins_cons]
  split
  ·rename_i hq
   rw [List.pairwise_cons]
   refine ⟨fun z hz => ?_, Wt.ins_sorted h.2 (fun z hz => hx z (List.mem_cons_of_mem _ hz))⟩
   rcases Wt.ins_mem.1 hz with rfl | hz
   ·exact hq
   ·exact h.1 z hz
  ·rename_i hq
   have hxy : x.lt y = true := Wt.lt_other hq (hx y (by simp))
   rw [List.pairwise_cons]
   refine ⟨fun z hz => ?_, List.pairwise_cons.2 h⟩
   rcases List.mem_cons.1 hz with rfl | hz
   ·exact hxy
   ·exact Wt.lt_trans hxy (h.1 z hz)
theorem Wt.ins_irqs {x : Wt} : ∀ {l : List Wt}, l.Pairwise (fun a b => a.irq ≠ b.irq) → (∀ y ∈ l, y.irq ≠ x.irq) → (Wt.ins l x).Pairwise (fun a b => a.irq ≠ b.irq)
 | [], _, _ => by simp [Wt.ins_nil]
 | y :: l, h, hx => by
  rw [List.pairwise_cons] at h
  rw [Wt.ins_cons]
  split
  ·rw [List.pairwise_cons]
   refine ⟨fun z hz => ?_, Wt.ins_irqs h.2 (fun z hz => hx z (List.mem_cons_of_mem _ hz))⟩
   rcases Wt.ins_mem.1 hz with rfl | hz
   ·exact hx y (by simp)
   ·exact h.1 z hz
  ·rw [List.pairwise_cons]
   exact ⟨fun z hz => (hx z hz).symm, List.pairwise_cons.2 h⟩

end Go.Proofs.YtndfmkbpdoohfaaGreat

/- Queues in plain terms: what valid parts are, how settling goes on, and that it ends. No condition. -/
namespace Go.Proofs.YtndfmkbpdoohfaaGreat

theorem any_take_false {α : Type} {p : α → Bool} {l : List α} {i : Nat} : (l.take i).any p = false ↔ ∀ (j : Nat) (u : α), j < i → l[j]? = some u → p u = false := by
 rw [List.any_eq_false]
 constructor
 ·intro h j u hj hu
  have := h u (List.mem_of_getElem? (i := j) (by rw [List.getElem?_take, if_pos hj]; exact hu))
  simpa using this
 ·intro h x hx
  obtain ⟨j, hj⟩ := List.getElem?_of_mem hx
  rw [List.getElem?_take] at hj
  split at hj
  ·rename_i hji
   simpa using h j x hji hj
  ·cases hj

def Sl.fine (s : Sl) : Prop := if s.state = 0 then s.irq = 0 ∧ s.prio = 0 else (1 ≤ s.state ∧ s.state ≤ 3) ∧ (0 ≤ s.irq ∧ s.irq ≤ 7) ∧ (0 ≤ s.prio ∧ s.prio ≤ 15)
def Wt.fine (w : Wt) : Prop := (0 ≤ w.irq ∧ w.irq ≤ 7) ∧ (0 ≤ w.prio ∧ w.prio ≤ 15)
theorem Sl.okAt_iff {l : List Sl} {i : Nat} {s : Sl} : Sl.okAt l i s = true ↔ s.fine ∧ (¬ s.state = 0 → ∀ (j : Nat) (u : Sl), j < i → l[j]? = some u → ¬ u.state = 0 → u.irq ≠ s.irq) := by
 unfold Sl.okAt Sl.fine
 split
 ·rename_i h0
  simp [h0]
 ·rename_i h0
  simp only [Bool.and_eq_true, Bool.not_eq_true', inB_iff, any_take_false]
  constructor
  ·rintro ⟨h1, h2, h3, h4⟩
   refine ⟨⟨h1, h2, h3⟩, fun _ j u hj hu hu0 e => ?_⟩
   have := h4 j u hj hu
   simp [Sl.has, hu0, e] at this
  ·rintro ⟨⟨h1, h2, h3⟩, h4⟩
   refine ⟨h1, h2, h3, fun j u hj hu => ?_⟩
   by_cases hu0 : u.state = 0
   ·simp [Sl.has, hu0]
   ·have := h4 h0 j u hj hu hu0
    simp [Sl.has, this]
theorem Sl.upTo_iff {l : List Sl} : ∀ {k : Nat}, Sl.upTo l k = true ↔ ∀ (j : Nat) (s : Sl), j < k → l[j]? = some s → Sl.okAt l j s = true
 | 0 => by simp [Sl.upTo]
 | k + 1 => by
  have ih := Sl.upTo_iff (l := l) (k := k)
  rw [Sl.upTo, Bool.and_eq_true, ih]
  constructor
  ·rintro ⟨h1, h2⟩ j s hj hs
   by_cases hjk : j = k
   ·subst hjk; rw [hs] at h2; exact h2
   ·exact h1 j s (by omega) hs
  ·intro h
   refine ⟨fun j s hj hs => h j s (by omega) hs, ?_⟩
   cases hk : l[k]? with
   | none => rfl
   | some s => exact h k s (by omega) hk
theorem Sl.good_iff {l : List Sl} : Sl.good l = true ↔ l.length = 4 ∧ (∀ (k : Nat) (s : Sl), l[k]? = some s → s.fine) ∧ (∀ (j k : Nat) (u s : Sl), j < k → l[j]? = some u → l[k]? = some s → ¬ u.state = 0 → ¬ s.state = 0 → u.irq ≠ s.irq) := by
 simp only [Sl.good, Bool.and_eq_true, decide_eq_true_eq, Sl.upTo_iff, Sl.okAt_iff]
 constructor
 ·rintro ⟨h1, h2⟩
  refine ⟨by omega, fun k s hs => (h2 k s (List.getElem?_eq_some_iff.1 hs).1 hs).1, fun j k u s hjk hu hs hu0 hs0 => (h2 k s (List.getElem?_eq_some_iff.1 hs).1 hs).2 hs0 j u hjk hu hu0⟩
 ·rintro ⟨h1, h2, h3⟩
  exact ⟨by omega, fun k s _ hs => ⟨h2 k s hs, fun hs0 j u hj hu hu0 => h3 j k u s hj hu hs hu0 hs0⟩⟩
theorem Sl.good_fine {l : List Sl} (h : Sl.good l = true) {k : Nat} {s : Sl} (hs : l[k]? = some s) : s.fine := (Sl.good_iff.1 h).2.1 k s hs
theorem Sl.good_two {l : List Sl} (h : Sl.good l = true) {j k : Nat} {u s : Sl} (hjk : j ≠ k) (hu : l[j]? = some u) (hs : l[k]? = some s) (h1 : ¬ u.state = 0) (h2 : ¬ s.state = 0) : u.irq ≠ s.irq := by
 rcases Nat.lt_or_gt_of_ne hjk with h' | h'
 ·exact (Sl.good_iff.1 h).2.2 j k u s h' hu hs h1 h2
 ·exact ((Sl.good_iff.1 h).2.2 k j s u h' hs hu h2 h1).symm
theorem Sl.good_set {l : List Sl} (h : Sl.good l = true) {k : Nat} {x : Sl} (hx : x.fine) (hd : ¬ x.state = 0 → ∀ (j : Nat) (u : Sl), j ≠ k → l[j]? = some u → ¬ u.state = 0 → u.irq ≠ x.irq) : Sl.good (l.set k x) = true := by
 obtain ⟨h1, h2, h3⟩ := Sl.good_iff.1 h
 refine Sl.good_iff.2 ⟨by rw [List.length_set]; exact h1, fun j s hs => ?_, fun i j u s hij hu hs hu0 hs0 => ?_⟩
 ·rw [List.getElem?_set] at hs
  split at hs
  ·split at hs
   ·injection hs with hs; subst hs; exact hx
   ·cases hs
  ·exact h2 j s hs
 ·rw [List.getElem?_set] at hu hs
  split at hu
  ·rename_i hki
   split at hu
   ·injection hu with hu; subst hu; subst hki
    rw [if_neg (by omega)] at hs
    exact (hd hu0 j s (by omega) hs hs0).symm
   ·cases hu
  ·rename_i hki
   split at hs
   ·rename_i hkj
    split at hs
    ·injection hs with hs; subst hs; subst hkj
     exact hd hs0 i u (by omega) hu hu0
    ·cases hs
   ·exact h3 i j u s hij hu hs hu0 hs0

theorem Wt.upTo_iff {ls : List Sl} {lw : List Wt} : ∀ {k : Nat}, Wt.upTo ls lw k = true ↔ ∀ (j : Nat) (w : Wt), j < k → lw[j]? = some w → Wt.okAt ls lw j w = true
 | 0 => by simp [Wt.upTo]
 | k + 1 => by
  have ih := Wt.upTo_iff (ls := ls) (lw := lw) (k := k)
  rw [Wt.upTo, Bool.and_eq_true, ih]
  constructor
  ·rintro ⟨h1, h2⟩ j s hj hs
   by_cases hjk : j = k
   ·subst hjk; rw [hs] at h2; exact h2
   ·exact h1 j s (by omega) hs
  ·intro h
   refine ⟨fun j s hj hs => h j s (by omega) hs, ?_⟩
   cases hk : lw[k]? with
   | none => rfl
   | some s => exact h k s (by omega) hk
theorem Sl.ix_neg {ls : List Sl} {i : Int} : Sl.ix ls i < 0 ↔ ∀ s ∈ ls, ¬ s.state = 0 → s.irq ≠ i := by
 have h := findIx_nonneg (Sl.has i) ls
 unfold Sl.ix
 constructor
 ·intro hlt s hs hs0 e
  have : ls.any (Sl.has i) = false := by rw [← h]; exact decide_eq_false (by omega)
  have := List.any_eq_false.1 this s hs
  simp [Sl.has, hs0, e] at this
 ·intro hall
  have : ls.any (Sl.has i) = false := by
   rw [List.any_eq_false]
   intro s hs hp
   simp only [Sl.has, Bool.and_eq_true, Bool.not_eq_true', beq_eq_false_iff_ne, beq_iff_eq] at hp
   exact hall s hs hp.1 hp.2
  rw [this] at h
  have := of_decide_eq_false h
  omega
/-- no slot in use holds i -/
def Sl.lacks (ls : List Sl) (i : Int) : Prop := ∀ s ∈ ls, ¬ s.state = 0 → s.irq ≠ i
theorem Qu.parts_iff {ls : List Sl} {lw : List Wt} : Qu.parts ls lw = true ↔ Sl.good ls = true ∧ (∀ w ∈ lw, w.fine) ∧ (∀ w ∈ lw, Sl.lacks ls w.irq) ∧ lw.Pairwise (fun x y => x.lt y = true) ∧ lw.Pairwise (fun x y => x.irq ≠ y.irq) := by
 have hfine : ∀ w : Wt, w.fine ↔ inB w.irq 0 7 = true ∧ inB w.prio 0 15 = true := fun w => by simp [Wt.fine, inB_iff]
 rw [Qu.parts, Bool.and_eq_true, Wt.upTo_iff]
 refine and_congr_right fun hg => ?_
 constructor
 ·intro h
  have hx : ∀ (j : Nat) (w : Wt), lw[j]? = some w → w.fine ∧ Sl.lacks ls w.irq ∧ (lw.take j).any (Wt.isI w.irq) = false ∧ Wt.prevOk lw w j = true := fun j w hw => by
   have := h j w (List.getElem?_eq_some_iff.1 hw).1 hw
   simp only [Wt.okAt, Bool.and_eq_true, Bool.not_eq_true', decide_eq_true_eq] at this
   exact ⟨(hfine w).2 ⟨this.1, this.2.1⟩, Sl.ix_neg.1 this.2.2.1, this.2.2.2.1, this.2.2.2.2⟩
  refine ⟨fun w hw => ?_, fun w hw => ?_, ?_, ?_⟩
  ·obtain ⟨j, hj⟩ := List.getElem?_of_mem hw
   exact (hx j w hj).1
  ·obtain ⟨j, hj⟩ := List.getElem?_of_mem hw
   exact (hx j w hj).2.1
  ·have key : ∀ (d i : Nat) (a b : Wt), lw[i]? = some a → lw[i + d + 1]? = some b → a.lt b = true := by
    intro d
    induction d with
    | zero =>
     intro i a b ha hb
     have := (hx _ b hb).2.2.2
     simp only [Wt.prevOk, List.getD_eq_getElem?_getD, ha, Option.getD_some] at this
     exact this
    | succ d ih =>
     intro i a b ha hb
     have hlt := (List.getElem?_eq_some_iff.1 hb).1
     have hm : lw[i + d + 1]? = some lw[i + d + 1] := List.getElem?_eq_getElem (by omega)
     have h2 := (hx _ b hb).2.2.2
     rw [show i + (d + 1) + 1 = (i + d + 1) + 1 by omega] at h2
     simp only [Wt.prevOk, List.getD_eq_getElem?_getD, hm, Option.getD_some] at h2
     exact Wt.lt_trans (ih i a _ ha hm) h2
   rw [List.pairwise_iff_getElem]
   intro i j hi hj hij
   exact key (j - i - 1) i _ _ (List.getElem?_eq_getElem hi) (by rw [show i + (j - i - 1) + 1 = j by omega]; exact List.getElem?_eq_getElem hj)
  ·rw [List.pairwise_iff_getElem]
   intro i j hi hj hij e
   have := any_take_false.1 (hx j _ (List.getElem?_eq_getElem hj)).2.2.1 i _ hij (List.getElem?_eq_getElem hi)
   simp [Wt.isI, e] at this
 ·rintro ⟨h1, h2, h3, h4⟩ j w hj hw
  have hm := List.mem_of_getElem? hw
  have hf := (hfine w).1 (h1 w hm)
  simp only [Wt.okAt, Bool.and_eq_true, Bool.not_eq_true', decide_eq_true_eq]
  refine ⟨hf.1, hf.2, Sl.ix_neg.2 (h2 w hm), any_take_false.2 fun i u hi hu => ?_, ?_⟩
  ·have := (List.pairwise_iff_getElem.1 h4) i j (by omega) hj hi
   obtain ⟨_, e1⟩ := List.getElem?_eq_some_iff.1 hu
   obtain ⟨_, e2⟩ := List.getElem?_eq_some_iff.1 hw
   rw [e1, e2] at this
   simp [Wt.isI, this]
  ·cases j with
   | zero => rfl
   | succ j =>
    have hj' : lw[j]? = some lw[j] := List.getElem?_eq_getElem (by omega)
    have := (List.pairwise_iff_getElem.1 h3) j (j + 1) (by omega) hj (by omega)
    obtain ⟨_, e2⟩ := List.getElem?_eq_some_iff.1 hw
    rw [e2] at this
    simp only [Wt.prevOk, List.getD_eq_getElem?_getD, hj', Option.getD_some]
    exact this

/-! ### one step of settling -/
def Sl.pend (t : Wt) : Sl := ⟨1, t.irq, t.prio⟩
def Qu.step (ls : List Sl) : List Wt → List Sl × List Wt
 | [] => (ls, [])
 | t :: rest => if 0 ≤ Sl.fx ls then (ls.set (Sl.fx ls).toNat (Sl.pend t), rest) else (ls.set (Sl.bn ls).toNat (Sl.pend t), Wt.ins rest (Sl.at_ ls (Sl.bn ls)).wt)
theorem Qu.step_free {ls : List Sl} {t : Wt} {rest : List Wt} {k : Nat} (h : Sl.fx ls = k) : Qu.step ls (t :: rest) = (ls.set k (Sl.pend t), rest) := by
 rw [Qu.step, h, if_pos (by omega)]; rfl
theorem Qu.step_full {ls : List Sl} {t : Wt} {rest : List Wt} {k : Nat} {s : Sl} (h : Sl.fx ls = -1) (hb : Sl.bn ls = k) (hs : ls[k]? = some s) : Qu.step ls (t :: rest) = (ls.set k (Sl.pend t), Wt.ins rest s.wt) := by
 rw [Qu.step, h, if_neg (by omega), hb, Sl.at_get hs]; rfl
/-- what 'not settled' says -/
theorem Qu.unsettled {ls : List Sl} {lw : List Wt} (h : Qu.settled ls lw = false) : ∃ t rest, lw = t :: rest ∧ ((∃ (k : Nat) (s : Sl), Sl.fx ls = k ∧ k < ls.length ∧ ls[k]? = some s ∧ s.state = 0) ∨ (Sl.fx ls = -1 ∧ ∃ (k : Nat) (s : Sl), Sl.bn ls = k ∧ k < ls.length ∧ ls[k]? = some s ∧ s.state = 1 ∧ ¬ s.wt.lt t = true)) := by
 cases lw with
 | nil => simp [Qu.settled] at h
 | cons t rest =>
  refine ⟨t, rest, rfl, ?_⟩
  rcases find_cases Sl.free ls with ⟨hf, _⟩ | ⟨k, s, hf, hk, hs, h0⟩
  ·right
   change Sl.fx ls = -1 at hf
   refine ⟨hf, ?_⟩
   rw [Qu.settled, hf] at h
   rcases Sl.bn_cases ls with hb | ⟨k, s, hb, hk, hs, h1⟩
   ·rw [hb] at h; simp at h
   ·refine ⟨k, s, hb, hk, hs, h1, ?_⟩
    rw [hb, Sl.at_get hs] at h
    simp only [show decide ((-1 : Int) < 0) = true from rfl, show decide ((k : Int) < 0) = false from by simp, Bool.true_and, Bool.false_or] at h
    rw [h]; simp
  ·left
   exact ⟨k, s, hf, hk, hs, by simpa [Sl.free] using h0⟩
theorem mem_set_or {l : List Sl} {k : Nat} {x s : Sl} (h : s ∈ l.set k x) : s = x ∨ ∃ j, j ≠ k ∧ l[j]? = some s := by
 obtain ⟨j, hj⟩ := List.getElem?_of_mem h
 rw [List.getElem?_set] at hj
 split at hj
 ·split at hj
  ·injection hj with hj; exact .inl hj.symm
  ·cases hj
 ·rename_i hne
  exact .inr ⟨j, fun e => hne e.symm, hj⟩
theorem Sl.fine_pend {t : Wt} (h : t.fine) : (Sl.pend t).fine := by
 unfold Sl.fine Sl.pend
 rw [if_neg (by simp)]
 exact ⟨by simp, h.1, h.2⟩
theorem Sl.fine_wt {s : Sl} (h : s.fine) (h0 : ¬ s.state = 0) : s.wt.fine := by
 unfold Sl.fine at h
 rw [if_neg h0] at h
 exact ⟨h.2.1, h.2.2⟩
/-- the pieces of valid parts with a head -/
theorem Qu.parts_head {ls : List Sl} {t : Wt} {rest : List Wt} (h : Qu.parts ls (t :: rest) = true) : Sl.good ls = true ∧ t.fine ∧ Sl.lacks ls t.irq ∧ (∀ y ∈ rest, t.lt y = true ∧ t.irq ≠ y.irq ∧ y.fine ∧ Sl.lacks ls y.irq) ∧ rest.Pairwise (fun x y => x.lt y = true) ∧ rest.Pairwise (fun x y => x.irq ≠ y.irq) := by
 obtain ⟨hg, h1, h2, h3, h4⟩ := Qu.parts_iff.1 h
 rw [List.pairwise_cons] at h3 h4
 exact ⟨hg, h1 t (by simp), h2 t (by simp), fun y hy => ⟨h3.1 y hy, h4.1 y hy, h1 y (by simp [hy]), h2 y (by simp [hy])⟩, h3.2, h4.2⟩
theorem Qu.step_parts {ls : List Sl} {lw : List Wt} (h : Qu.parts ls lw = true) (hs : Qu.settled ls lw = false) : Qu.parts (Qu.step ls lw).1 (Qu.step ls lw).2 = true := by
 obtain ⟨t, rest, rfl, hc⟩ := Qu.unsettled hs
 obtain ⟨hg, tf, tl, hr, hs1, hs2⟩ := Qu.parts_head h
 have hset : ∀ k, Sl.good (ls.set k (Sl.pend t)) = true := fun k => Sl.good_set hg (Sl.fine_pend tf) (fun _ j u _ hu hu0 => tl u (List.mem_of_getElem? hu) hu0)
 have hlack : ∀ k y, y ∈ rest → Sl.lacks (ls.set k (Sl.pend t)) y.irq := fun k y hy s hs hs0 => by
  rcases mem_set_or hs with rfl | ⟨j, _, hj⟩
  ·exact (hr y hy).2.1
  ·exact (hr y hy).2.2.2 s (List.mem_of_getElem? hj) hs0
 rcases hc with ⟨k, s, hk, _, _, _⟩ | ⟨hf, k, s, hk, _, hsk, h1, _⟩
 ·rw [Qu.step_free hk]
  exact Qu.parts_iff.2 ⟨hset k, fun y hy => (hr y hy).2.2.1, fun y hy => hlack k y hy, hs1, hs2⟩
 ·rw [Qu.step_full hf hk hsk]
  have hs0 : ¬ s.state = 0 := by omega
  have hsm := List.mem_of_getElem? hsk
  have hne : ∀ y ∈ rest, y.irq ≠ s.wt.irq := fun y hy e => (hr y hy).2.2.2 s hsm hs0 e.symm
  refine Qu.parts_iff.2 ⟨hset k, fun y hy => ?_, fun y hy => ?_, Wt.ins_sorted hs1 hne, Wt.ins_irqs hs2 hne⟩
  ·rcases Wt.ins_mem.1 hy with rfl | hy
   ·exact Sl.fine_wt (Sl.good_fine hg hsk) hs0
   ·exact (hr y hy).2.2.1
  ·rcases Wt.ins_mem.1 hy with rfl | hy
   ·intro u hu hu0
    rcases mem_set_or hu with rfl | ⟨j, hjk, hj⟩
    ·exact fun e => tl s hsm hs0 e.symm
    ·exact Sl.good_two hg hjk hj hsk hu0 hs0
   ·exact hlack k y hy

/-! ### the measure -/
def Sl.rk (s : Sl) : Nat := if s.state = 0 then 128 else if s.state = 1 then (s.prio * 8 + s.irq).toNat else 0
def Qu.meas (ls : List Sl) : Nat := (ls.map Sl.rk).sum
theorem Sl.rk_le {s : Sl} (h : s.fine) : s.rk ≤ 128 := by
 unfold Sl.rk
 unfold Sl.fine at h
 split at h
 ·rename_i h0; rw [if_pos h0]; omega
 ·rename_i h0
  rw [if_neg h0]
  split
  ·omega
  ·omega
theorem Qu.meas_set : ∀ {ls : List Sl} {k : Nat} {s x : Sl}, ls[k]? = some s → Qu.meas (ls.set k x) + s.rk = Qu.meas ls + x.rk
 | [], k, s, x, h => by simp at h
 | y :: ls, 0, s, x, h => by
  simp at h; subst h
  simp [Qu.meas]; omega
 | y :: ls, k + 1, s, x, h => by
  have ih := Qu.meas_set (ls := ls) (k := k) (s := s) (x := x) (by simpa using h)
  simp only [Qu.meas, List.set_cons_succ, List.map_cons, List.sum_cons] at *
  omega
theorem Qu.meas_le {ls : List Sl} (h : Sl.good ls = true) : Qu.meas ls ≤ 512 := by
 have key : ∀ l : List Sl, (∀ s ∈ l, s.fine) → Qu.meas l ≤ 128 * l.length := by
  intro l
  induction l with
  | nil => intro _; simp [Qu.meas]
  | cons x l ih =>
   intro hl
   have h1 := Sl.rk_le (hl x (by simp))
   have h2 := ih (fun s hs => hl s (by simp [hs]))
   simp only [Qu.meas, List.map_cons, List.sum_cons, List.length_cons] at *
   omega
 have := key ls (fun s hs => by obtain ⟨j, hj⟩ := List.getElem?_of_mem hs; exact Sl.good_fine h hj)
 rw [(Sl.good_iff.1 h).1] at this
 omega
theorem Qu.step_meas {ls : List Sl} {lw : List Wt} (h : Qu.parts ls lw = true) (hs : Qu.settled ls lw = false) : Qu.meas (Qu.step ls lw).1 < Qu.meas ls := by
 obtain ⟨t, rest, rfl, hc⟩ := Qu.unsettled hs
 obtain ⟨hg, tf, tl, hr, hs1, hs2⟩ := Qu.parts_head h
 have htr : (Sl.pend t).rk = (t.prio * 8 + t.irq).toNat := by simp [Sl.rk, Sl.pend]
 unfold Wt.fine at tf
 rcases hc with ⟨k, s, hk, _, hsk, h0⟩ | ⟨hf, k, s, hk, _, hsk, h1, hlt⟩
 ·rw [Qu.step_free hk]
  have := Qu.meas_set (x := Sl.pend t) hsk
  have hsr : s.rk = 128 := by simp [Sl.rk, h0]
  show Qu.meas (ls.set k (Sl.pend t)) < _
  omega
 ·rw [Qu.step_full hf hk hsk]
  have := Qu.meas_set (x := Sl.pend t) hsk
  have hs0 : ¬ s.state = 0 := by omega
  have hsf := Sl.fine_wt (Sl.good_fine hg hsk) hs0
  have hne : s.irq ≠ t.irq := tl s (List.mem_of_getElem? hsk) hs0
  have hl2 := Wt.lt_other hlt hne
  rw [Wt.lt_iff] at hl2
  have hsr : s.rk = (s.prio * 8 + s.irq).toNat := by simp [Sl.rk, h1]
  simp only [Sl.wt] at hl2
  unfold Wt.fine Sl.wt at hsf
  show Qu.meas (ls.set k (Sl.pend t)) < _
  simp only at hsf
  omega

/-! ### settling -/
def Qu.run : Nat → List Sl → List Wt → List Sl × List Wt
 | 0, ls, lw => (ls, lw)
 | n + 1, ls, lw => if Qu.settled ls lw then (ls, lw) else Qu.run n (Qu.step ls lw).1 (Qu.step ls lw).2
theorem Qu.run_more : ∀ (n m : Nat) {ls : List Sl} {lw : List Wt}, Qu.parts ls lw = true → Qu.meas ls ≤ n → Qu.meas ls ≤ m → Qu.run n ls lw = Qu.run m ls lw
 | n, m, ls, lw, h, hn, hm => by
  cases hs : Qu.settled ls lw
  ·have h1 := Qu.step_meas h hs
   have h2 := Qu.step_parts h hs
   obtain ⟨n', rfl⟩ : ∃ n', n = n' + 1 := ⟨n - 1, by omega⟩
   obtain ⟨m', rfl⟩ : ∃ m', m = m' + 1 := ⟨m - 1, by omega⟩
   rw [Qu.run, Qu.run, hs]
   simp only [Bool.false_eq_true, if_false]
   exact Qu.run_more n' m' h2 (by omega) (by omega)
  ·cases n <;> cases m <;> simp [Qu.run, hs]
termination_by n => n
def Qu.st (ls : List Sl) (lw : List Wt) : List Sl × List Wt := Qu.run 1000 ls lw
theorem Qu.st_done {ls : List Sl} {lw : List Wt} (h : Qu.settled ls lw = true) : Qu.st ls lw = (ls, lw) := by simp [Qu.st, Qu.run, h]
theorem Qu.st_step {ls : List Sl} {lw : List Wt} (h : Qu.parts ls lw = true) (hs : Qu.settled ls lw = false) : Qu.st ls lw = Qu.st (Qu.step ls lw).1 (Qu.step ls lw).2 := by
 have h1 := Qu.step_meas h hs
 have h2 := Qu.meas_le (Qu.parts_get h).1
 unfold Qu.st
 rw [show (1000 : Nat) = 999 + 1 from rfl, Qu.run, hs]
 simp only [Bool.false_eq_true, if_false]
 exact Qu.run_more 999 (999 + 1) (Qu.step_parts h hs) (by omega) (by omega)
theorem Qu.run_good : ∀ (n : Nat) {ls : List Sl} {lw : List Wt}, Qu.parts ls lw = true → Qu.meas ls ≤ n → Qu.good (Qu.run n ls lw).1 (Qu.run n ls lw).2 = true
 | n, ls, lw, h, hn => by
  cases hs : Qu.settled ls lw
  ·have h1 := Qu.step_meas h hs
   obtain ⟨n', rfl⟩ : ∃ n', n = n' + 1 := ⟨n - 1, by omega⟩
   rw [Qu.run, hs]
   simp only [Bool.false_eq_true, if_false]
   exact Qu.run_good n' (Qu.step_parts h hs) (by omega)
  ·cases n <;> simp [Qu.run, hs, Qu.good, h]
termination_by n => n
theorem Qu.st_good {ls : List Sl} {lw : List Wt} (h : Qu.parts ls lw = true) : Qu.good (Qu.st ls lw).1 (Qu.st ls lw).2 = true := Qu.run_good 1000 h (by have := Qu.meas_le (Qu.parts_get h).1; omega)
theorem Qu.good_parts {ls : List Sl} {lw : List Wt} (h : Qu.good ls lw = true) : Qu.parts ls lw = true ∧ Qu.settled ls lw = true := by simpa [Qu.good] using h
end Go.Proofs.YtndfmkbpdoohfaaGreat

/- Offering, ending, withdrawing, taking in turn: what becomes of a queue, in plain terms. No condition. -/
namespace Go.Proofs.YtndfmkbpdoohfaaGreat

theorem Qu.parts_set {ls : List Sl} {lw : List Wt} {k : Nat} {s x : Sl} (h : Qu.parts ls lw = true) (hs : ls[k]? = some s) (h0 : ¬ s.state = 0) (hx : x.fine) (hi : ¬ x.state = 0 → x.irq = s.irq) : Qu.parts (ls.set k x) lw = true := by
 obtain ⟨hg, h1, h2, h3, h4⟩ := Qu.parts_iff.1 h
 refine Qu.parts_iff.2 ⟨Sl.good_set hg hx (fun hx0 j u hj hu hu0 => by rw [hi hx0]; exact Sl.good_two hg hj hu hs hu0 h0), h1, fun w hw u hu hu0 => ?_, h3, h4⟩
 rcases mem_set_or hu with rfl | ⟨j, _, hj⟩
 ·rw [hi hu0]; exact h2 w hw s (List.mem_of_getElem? hs) h0
 ·exact h2 w hw u (List.mem_of_getElem? hj) hu0
theorem Qu.parts_ins {ls : List Sl} {lw : List Wt} {x : Wt} (h : Qu.parts ls lw = true) (hx : x.fine) (hl : Sl.lacks ls x.irq) (hn : ∀ y ∈ lw, y.irq ≠ x.irq) : Qu.parts ls (Wt.ins lw x) = true := by
 obtain ⟨hg, h1, h2, h3, h4⟩ := Qu.parts_iff.1 h
 refine Qu.parts_iff.2 ⟨hg, fun w hw => ?_, fun w hw => ?_, Wt.ins_sorted h3 hn, Wt.ins_irqs h4 hn⟩
 ·rcases Wt.ins_mem.1 hw with rfl | hw
  ·exact hx
  ·exact h1 w hw
 ·rcases Wt.ins_mem.1 hw with rfl | hw
  ·exact hl
  ·exact h2 w hw
theorem Sl.ix_hit {ls : List Sl} {i : Int} (h : 0 ≤ Sl.ix ls i) : ∃ (k : Nat) (s : Sl), Sl.ix ls i = k ∧ k < ls.length ∧ ls[k]? = some s ∧ ¬ s.state = 0 ∧ s.irq = i := by
 rcases find_cases (Sl.has i) ls with ⟨hf, _⟩ | ⟨k, s, hf, hk, hs, hp⟩
 ·unfold Sl.ix at h; omega
 ·refine ⟨k, s, hf, hk, hs, ?_⟩
  simpa [Sl.has] using hp
theorem Sl.fine_both {s : Sl} (h : s.fine) (h0 : ¬ s.state = 0) : (Sl.both s).fine ∧ ¬ (Sl.both s).state = 0 ∧ (Sl.both s).irq = s.irq := by
 unfold Sl.both
 split
 ·refine ⟨?_, by simp, rfl⟩
  unfold Sl.fine at *
  rw [if_neg h0] at h
  rw [if_neg (by simp)]
  exact ⟨by simp, h.2⟩
 ·exact ⟨h, h0, rfl⟩
theorem Sl.fine_zero : (⟨0, 0, 0⟩ : Sl).fine := by simp [Sl.fine]
theorem Sl.fine_ended {s : Sl} (h : s.fine) (h0 : ¬ s.state = 0) : (Sl.ended s).fine ∧ (¬ (Sl.ended s).state = 0 → (Sl.ended s).irq = s.irq) := by
 unfold Sl.ended
 split
 ·exact ⟨Sl.fine_zero, fun h => absurd rfl h⟩
 ·refine ⟨?_, fun _ => rfl⟩
  unfold Sl.fine at *
  rw [if_neg h0] at h
  rw [if_neg (by simp)]
  exact ⟨by simp, h.2⟩
theorem Sl.fine_act {s : Sl} (h : s.fine) (h0 : ¬ s.state = 0) : (Sl.act s).fine ∧ (¬ (Sl.act s).state = 0 → (Sl.act s).irq = s.irq) := by
 refine ⟨?_, fun _ => rfl⟩
 unfold Sl.fine Sl.act at *
 rw [if_neg h0] at h
 rw [if_neg (by simp)]
 exact ⟨by simp, h.2⟩

/-! ### offering -/
def Qu.ofOk (ls : List Sl) (lw : List Wt) (i p : Int) : Bool := Qu.good ls lw && (inB i 0 7 && inB p 0 15)
def Qu.of0 (ls : List Sl) (lw : List Wt) (i p : Int) : List Sl × List Wt := if 0 ≤ Sl.ix ls i then (Sl.putR ls i p, lw) else if lw.any (Wt.isI i) then (ls, lw) else (ls, Wt.ins lw ⟨i, p⟩)
def Qu.ofP (ls : List Sl) (lw : List Wt) (i p : Int) : List Sl × List Wt := Qu.st (Qu.of0 ls lw i p).1 (Qu.of0 ls lw i p).2
theorem Qu.of_hit {ls : List Sl} {lw : List Wt} {i p : Int} (h : 0 ≤ Sl.ix ls i) : Qu.of0 ls lw i p = (Sl.putR ls i p, lw) := by simp [Qu.of0, h]
theorem Qu.of_had {ls : List Sl} {lw : List Wt} {i p : Int} (h : Sl.ix ls i < 0) (h2 : lw.any (Wt.isI i) = true) : Qu.of0 ls lw i p = (ls, lw) := by simp [Qu.of0, h2, show ¬ 0 ≤ Sl.ix ls i by omega]
theorem Qu.of_new {ls : List Sl} {lw : List Wt} {i p : Int} (h : Sl.ix ls i < 0) (h2 : lw.any (Wt.isI i) = false) : Qu.of0 ls lw i p = (ls, Wt.ins lw ⟨i, p⟩) := by simp [Qu.of0, h2, show ¬ 0 ≤ Sl.ix ls i by omega]
theorem Qu.any_isI {lw : List Wt} {i : Int} (h : lw.any (Wt.isI i) = false) : ∀ y ∈ lw, y.irq ≠ i := fun y hy e => by
 have := List.any_eq_false.1 h y hy
 simp [Wt.isI, e] at this
theorem Qu.of_parts {ls : List Sl} {lw : List Wt} {i p : Int} (h : Qu.parts ls lw = true) (hi : inB i 0 7 = true) (hp : inB p 0 15 = true) : Qu.parts (Qu.of0 ls lw i p).1 (Qu.of0 ls lw i p).2 = true := by
 have hg := (Qu.parts_get h).1
 by_cases h1 : 0 ≤ Sl.ix ls i
 ·rw [Qu.of_hit h1]
  obtain ⟨k, s, hk, _, hs, h0, _⟩ := Sl.ix_hit h1
  have hf := Sl.fine_both (Sl.good_fine hg hs) h0
  show Qu.parts (Sl.putR ls i p) lw = true
  rw [(Sl.put_hit (p := p) hk hs).2]
  exact Qu.parts_set h hs h0 hf.1 (fun _ => hf.2.2)
 ·have h1' : Sl.ix ls i < 0 := by omega
  cases h2 : lw.any (Wt.isI i)
  ·rw [Qu.of_new h1' h2]
   exact Qu.parts_ins h ⟨inB_true hi, inB_true hp⟩ (Sl.ix_neg.1 h1') (Qu.any_isI h2)
  ·rw [Qu.of_had h1' h2]; exact h
theorem Qu.ofOk_get {ls : List Sl} {lw : List Wt} {i p : Int} (h : Qu.ofOk ls lw i p = true) : Qu.good ls lw = true ∧ inB i 0 7 = true ∧ inB p 0 15 = true := by simpa [Qu.ofOk] using h
theorem Qu.ofP_good {ls : List Sl} {lw : List Wt} {i p : Int} (h : Qu.ofOk ls lw i p = true) : Qu.good (Qu.ofP ls lw i p).1 (Qu.ofP ls lw i p).2 = true := by
 obtain ⟨h1, h2, h3⟩ := Qu.ofOk_get h
 exact Qu.st_good (Qu.of_parts (Qu.good_parts h1).1 h2 h3)
theorem Qu.good_len2 {ls : List Sl} {lw : List Wt} (h : Qu.good ls lw = true) : ls.length = 4 ∧ lw.length ≤ 8 := by
 have := (Qu.good_parts h).1
 exact ⟨Sl.good_len (Qu.parts_get this).1, Qu.parts_len this⟩
/-! ### settling given parts -/
/-! ### ending -/
def Qu.enP (ls : List Sl) (lw : List Wt) (i : Int) : List Sl × List Wt := Qu.st (Sl.endR ls i) lw
/-- what the inner function gives: nothing if there is nothing to end -/
def Qu.eiS (ls : List Sl) (lw : List Wt) (i : Int) : List Sl := if Sl.endOk ls i then (Qu.enP ls lw i).1 else []
def Qu.eiW (ls : List Sl) (lw : List Wt) (i : Int) : List Wt := if Sl.endOk ls i then (Qu.enP ls lw i).2 else []
theorem Qu.ei_no {ls : List Sl} {i : Int} (h : Sl.endOk ls i = false) (lw : List Wt) : Qu.eiS ls lw i = [] ∧ Qu.eiW ls lw i = [] := by simp [Qu.eiS, Qu.eiW, h]
theorem Qu.ei_yes {ls : List Sl} {i : Int} (h : Sl.endOk ls i = true) (lw : List Wt) : Qu.eiS ls lw i = (Qu.enP ls lw i).1 ∧ Qu.eiW ls lw i = (Qu.enP ls lw i).2 := by simp [Qu.eiS, Qu.eiW, h]
theorem Sl.endOk_hit {ls : List Sl} {i : Int} (h : Sl.endOk ls i = true) : ∃ (k : Nat) (s : Sl), Sl.ix ls i = k ∧ k < ls.length ∧ ls[k]? = some s ∧ ¬ s.state = 0 ∧ s.irq = i ∧ ¬ s.state = 1 ∧ Sl.endR ls i = ls.set k (Sl.ended s) := by
 have h' := h
 simp only [Sl.endOk, Bool.and_eq_true, decide_eq_true_eq] at h
 obtain ⟨k, s, hk, hlt, hs, h0, hi⟩ := Sl.ix_hit h.1
 have h2 := h.2
 rw [hk, Sl.at_get hs] at h2
 have h1 : ¬ s.state = 1 := by simpa using h2
 exact ⟨k, s, hk, hlt, hs, h0, hi, h1, (Sl.end_hit hk hs h1).2⟩
theorem Qu.en_parts {ls : List Sl} {lw : List Wt} {i : Int} (h : Qu.parts ls lw = true) (hk : Sl.endOk ls i = true) : Qu.parts (Sl.endR ls i) lw = true := by
 obtain ⟨k, s, _, _, hs, h0, _, _, e⟩ := Sl.endOk_hit hk
 have hf := Sl.fine_ended (Sl.good_fine (Qu.parts_get h).1 hs) h0
 rw [e]
 exact Qu.parts_set h hs h0 hf.1 hf.2
theorem Qu.eiP_good {ls : List Sl} {lw : List Wt} {i : Int} (h : Qu.parts ls lw = true) (hk : Sl.endOk ls i = true) : Qu.good (Qu.enP ls lw i).1 (Qu.enP ls lw i).2 = true := Qu.st_good (Qu.en_parts h hk)
/-! ### withdrawing -/
def Sl.drop (s : Sl) : Sl := if s.state = 3 then ⟨2, s.irq, s.prio⟩ else ⟨0, 0, 0⟩
/-! ### serving in turn -/
theorem Sl.tkOk_hit {ls : List Sl} {m : Int} (h : Sl.tkOk ls m = true) : ∃ (k : Nat) (s : Sl), Sl.bx ls = k ∧ k < ls.length ∧ ls[k]? = some s ∧ s.state = 1 ∧ s.prio < m ∧ Sl.tkS ls = ls.set k (Sl.act s) ∧ Sl.tkI ls = s.irq := by
 simp only [Sl.tkOk, Bool.and_eq_true, decide_eq_true_eq] at h
 rcases Sl.bx_cases ls with hb | ⟨k, s, hb, hk, hs, h1⟩
 ·omega
 ·have h2 := h.2
  rw [hb, Sl.at_get hs] at h2
  refine ⟨k, s, hb, hk, hs, h1, h2, ?_, ?_⟩
  ·rw [Sl.tkS, hb, Sl.at_get hs]; rfl
  ·rw [Sl.tkI, hb, Sl.at_get hs]
theorem Sl.ix_of {ls : List Sl} (h : Sl.good ls = true) {k : Nat} {s : Sl} (hs : ls[k]? = some s) (h0 : ¬ s.state = 0) : Sl.ix ls s.irq = k := by
 have hlt := (List.getElem?_eq_some_iff.1 hs).1
 refine findIx_hit (any_take_false.2 fun j u hj hu => ?_) hs (by simp [Sl.has, h0])
 by_cases hu0 : u.state = 0
 ·simp [Sl.has, hu0]
 ·have := Sl.good_two h (by omega : j ≠ k) hu hs hu0 h0
  simp [Sl.has, this]
theorem Qu.tk_parts {ls : List Sl} {lw : List Wt} {m : Int} (h : Qu.parts ls lw = true) (hk : Sl.tkOk ls m = true) : Qu.parts (Sl.tkS ls) lw = true := by
 obtain ⟨k, s, _, _, hs, h1, _, e, _⟩ := Sl.tkOk_hit hk
 have hf := Sl.fine_act (Sl.good_fine (Qu.parts_get h).1 hs) (by omega)
 rw [e]
 exact Qu.parts_set h hs (by omega) hf.1 hf.2
/-! ### all that is pending -/
def Sl.isPend (s : Sl) : Bool := s.state == 1 || s.state == 3
def Sl.pends (ls : List Sl) : List Wt := (ls.filter Sl.isPend).map Sl.wt
def Qu.all (ls : List Sl) (lw : List Wt) : List Wt := (Sl.pends ls).foldl Wt.ins lw
end Go.Proofs.YtndfmkbpdoohfaaGreat

/- The slots' draws: active ones of slots that need not be valid but differ, and taking from an own row. No condition but those. -/
namespace Go.Proofs.YtndfmkbpdoohfaaGreat
open Go.RowKit Go.ChangeShapes Go.WideShapes Go.Deep

/-- the active interrupts differ -/
def Sl.dis (l : List Sl) : Prop := (Sl.acts l).Nodup
theorem Sl.dis_good {l : List Sl} (h : Sl.good l = true) : Sl.dis l := Sl.acts_nodup h
theorem Sl.filt_set {x : Sl} (hx : Sl.isAct x = false) : ∀ (l : List Sl) (k : Nat), ((l.set k x).filter Sl.isAct).Sublist (l.filter Sl.isAct)
 | [], k => by simp
 | s :: l, 0 => by
  rw [List.set_cons_zero, List.filter_cons, if_neg (by simp [hx]), List.filter_cons]
  split
  ·exact List.sublist_cons_self _ _
  ·exact List.Sublist.refl _
 | s :: l, k + 1 => by
  have ih := Sl.filt_set hx l k
  rw [List.set_cons_succ, List.filter_cons, List.filter_cons]
  split
  ·exact ih.cons_cons _
  ·exact ih
theorem Sl.acts_set {x : Sl} (hx : Sl.isAct x = false) (l : List Sl) (k : Nat) : (Sl.acts (l.set k x)).Sublist (Sl.acts l) := (Sl.filt_set hx l k).map _
theorem Sl.dis_set {l : List Sl} (h : Sl.dis l) {x : Sl} (hx : Sl.isAct x = false) (k : Nat) : Sl.dis (l.set k x) := h.sublist (Sl.acts_set hx l k)
theorem Sl.dis_snoc {l : List Sl} (h : Sl.dis l) {x : Sl} (hx : Sl.isAct x = false) : Sl.dis (l ++ [x]) := by
 unfold Sl.dis Sl.acts at *
 rw [List.filter_append]
 simp only [List.filter_cons, hx]
 simpa using h
theorem Sl.good_put {l : List Sl} (h : Sl.good l = true) {i p : Int} (hi : 0 ≤ i ∧ i ≤ 7) (hp : 0 ≤ p ∧ p ≤ 15) (hk : Sl.putOk l i = true) : Sl.good (Sl.putR l i p) = true := by
 by_cases hx : 0 ≤ Sl.ix l i
 ·obtain ⟨k, s, hk, hkl, hs, h0, h1⟩ := Sl.ix_hit hx
  rw [(Sl.put_hit hk hs).2]
  obtain ⟨f1, f2, f3⟩ := Sl.fine_both (Sl.good_fine h hs) h0
  exact Sl.good_set h f1 (fun _ j u hj hu hu0 => by rw [f3]; exact Sl.good_two h hj hu hs hu0 h0)
 ·have hx1 : Sl.ix l i < 0 := by omega
  have hix : Sl.ix l i = -1 := by
   rcases find_cases (Sl.has i) l with h1 | ⟨k, s, h1, _⟩
   ·exact h1.1
   ·change Sl.ix l i = k at h1; omega
  rcases find_cases Sl.free l with h1 | ⟨k, s, h1, hkl, hs, hf⟩
  ·have h1 : Sl.fx l = -1 := h1.1
   rw [(Sl.put_no (p := p) hix h1).1] at hk; cases hk
  ·have h1 : Sl.fx l = k := h1
   rw [(Sl.put_new hix h1).2]
   refine Sl.good_set h (by simp [Sl.fine]; omega) (fun _ j u hj hu hu0 => ?_)
   exact Sl.ix_neg.1 hx1 u (List.mem_of_getElem? hu) hu0
theorem Sl.good_end {l : List Sl} (h : Sl.good l = true) {i : Int} (hk : Sl.endOk l i = true) : Sl.good (Sl.endR l i) = true := by
 obtain ⟨k, s, h1, hkl, hs, h0, h2, _, h3⟩ := Sl.endOk_hit hk
 rw [h3]
 obtain ⟨f1, f2⟩ := Sl.fine_ended (Sl.good_fine h hs) h0
 exact Sl.good_set h f1 (fun hx j u hj hu hu0 => by rw [f2 hx]; exact Sl.good_two h hj hu hs hu0 h0)
theorem Sl.good_tk {l : List Sl} (h : Sl.good l = true) (m : Int) : Sl.good (Sl.tkL l m) = true := by
 unfold Sl.tkL
 split
 ·rename_i hk
  obtain ⟨k, s, h1, hkl, hs, h0, h2, h3, _⟩ := Sl.tkOk_hit hk
  rw [h3]
  obtain ⟨f1, f2⟩ := Sl.fine_act (Sl.good_fine h hs) (by omega)
  exact Sl.good_set h f1 (fun hx j u hj hu hu0 => by rw [f2 hx]; exact Sl.good_two h hj hu hs hu0 (by omega))
 ·exact h
theorem Sl.good4 : Sl.good [⟨0, 0, 0⟩, ⟨0, 0, 0⟩, ⟨0, 0, 0⟩, ⟨0, 0, 0⟩] = true := by decide

set_option maxHeartbeats 1000000 in
theorem specTake_ow (v : Value) (l : List Sl) (m : Int) (w : World) {lo hi : Nat} (h : Ow Sl.cells 3 93 w lo hi v l) (hlo : lo ≤ w.heap.size) (hh : hi ≤ w.heap.size) (hg : Sl.good l = true) :
  Calls Tryz.prog 101 #[v, .int .i64 m] w fun r w' => ∃ v', r = .returned (.tuple #[v', .int .i64 (Sl.tkW l m)]) ∧ Ow Sl.cells 3 93 w' lo w'.heap.size v' (Sl.tkL l m) ∧ Below w.heap.size w w' := by
 have hl : l.length ≤ 1048576 := by rw [Sl.good_len hg]; decide
 have c1 := l8Best_any v l true w h.rd hh
 change Calls _ _ _ _ (fun e w' => e = .returned (.int .i64 (Sl.bx l)) ∧ Below w.heap.size w w') at c1
 have c3 := fun (W : World) (kb : Below w.heap.size w W) (k : Nat) (s : Sl) (hk : k < l.length) => specWith_any v l k s W (h.rd.below kb hh) (Nat.le_trans hh kb.size) hk hl
 have hrd := h
 obtain ⟨A, n, c, rfl, H, hc, hm⟩ := h.form
 clear hg
 rcases Sl.bx_cases l with hf | ⟨k, s, hf, hk, hs, _⟩
 ·rw [hf] at c1
  have HF := Lib.hid (Sl.tk_no (l := l) (m := m) (by simp [Sl.tkOk, hf]))
  clear hf c3
  go_enter Tryz.func101, Tryz.ntmps101
  go_wp2_with fail
  refine c1.mono ?_; rintro q_ w1 ⟨rfl, b1⟩
  go_wp2_with fail
  go_ret2
  exact ⟨_, by rw [HF.out.2.2.2.2]; rfl, by rw [HF.out.2.2.2.1]; exact (hrd.below b1 hh).mono (Nat.le_refl _) (Nat.le_trans hh b1.size), b1⟩
 ·rw [hf] at c1
  have hkn : k < n := by rw [H.out]; exact hk
  have HT := Lib.hid hs
  have hj0 : decide ((k : Int) < 0) = false := by simp
  by_cases hp : s.prio < m
  ·have HF := Lib.hid (Sl.tk_yes hf hs hp)
   have hd : decide (m ≤ s.prio) = false := decide_eq_false (by omega)
   have c3 := fun W kb => c3 W kb k (Sl.act s) hk
   unfold Sl.act Sl.val at c3
   simp only at c3
   unfold Sl.act at HF
   clear hf hs hp
   go_enter Tryz.func101, Tryz.ntmps101
   go_wp2_with fail
   refine c1.mono ?_; rintro q_ w1 ⟨rfl, b1⟩
   obtain ⟨b, off, t, rfl, ht, _, hbl, f0, f1, f2⟩ := Sl.get hrd.rd hkn b1 hh
   obtain rfl := Option.some.inj (HT.out.symm.trans ht.out)
   have hbw1 : b < w1.heap.size := by have := b1.size; omega
   go_wp2_with fail
   have k0 : (w1.alloc (.cells #[.int .i64 2, .int .i64 s.irq, .int .i64 s.prio] 93)).cell? ⟨w1.heap.size, 0, none⟩ = some (.int .i64 2) := by simp
   have k1 : (w1.alloc (.cells #[.int .i64 2, .int .i64 s.irq, .int .i64 s.prio] 93)).cell? ⟨w1.heap.size, 1, none⟩ = some (.int .i64 s.irq) := by simp
   have k2 : (w1.alloc (.cells #[.int .i64 2, .int .i64 s.irq, .int .i64 s.prio] 93)).cell? ⟨w1.heap.size, 2, none⟩ = some (.int .i64 s.prio) := by simp
   have bx := b1.alloc b1.size (.cells #[.int .i64 2, .int .i64 s.irq, .int .i64 s.prio] 93)
   have z2 : w1.heap.size < (w1.alloc (.cells #[.int .i64 2, .int .i64 s.irq, .int .i64 s.prio] 93)).heap.size := by simp
   have zz := bx.size
   clear f0 f1 f2
   generalize w1.alloc _ = w2 at bx k0 k1 k2 z2 zz ⊢
   have c5 := c3 w2.drew (bx.drew)
   go_region_with (go_at_call 136; refine c5.mono ?_; rintro q_ w3 ⟨v', rfl, o1, b3⟩; (try simp only [World.size_drew] at b3 o1); (have k3 := (b3.cell (p := ⟨w1.heap.size, 1, none⟩) z2).trans k1))
   all_goals
    have bx := bx.drew
    go_wp2_with fail
    go_ret2
    exact ⟨v', by rw [HF.out.2.2.2.2]; rfl, by rw [HF.out.2.2.2.1]; exact o1.mono (Nat.le_trans hlo zz) (Nat.le_refl _), bx.trans (b3.mono zz)⟩
  ·have HF := Lib.hid (Sl.tk_no (l := l) (m := m) (by simp [Sl.tkOk, hf, Sl.at_get hs, hp]))
   have hd : decide (m ≤ s.prio) = true := decide_eq_true (by omega)
   clear hf hs hp c3
   go_enter Tryz.func101, Tryz.ntmps101
   go_wp2_with fail
   refine c1.mono ?_; rintro q_ w1 ⟨rfl, b1⟩
   have hrd2 := hrd
   obtain ⟨b, off, t, rfl, ht, _, hbl, f0, f1, f2⟩ := Sl.get hrd.rd hkn b1 hh
   obtain rfl := Option.some.inj (HT.out.symm.trans ht.out)
   have hbw1 : b < w1.heap.size := by have := b1.size; omega
   go_wp2_with fail
   go_ret2
   exact ⟨_, by rw [HF.out.2.2.2.2]; rfl, by rw [HF.out.2.2.2.1]; exact (hrd.below b1 hh).mono (Nat.le_refl _) (Nat.le_trans hh b1.size), b1⟩

end Go.Proofs.YtndfmkbpdoohfaaGreat

/- The reference's draw of slots: it returns something, in new memory. Condition: at most 100000 reads before. -/
namespace Go.Proofs.YtndfmkbpdoohfaaGreat
open Go.RowKit Go.ChangeShapes Go.WideShapes Go.Deep

theorem grown_below {w w' : World} (h : Below w.heap.size w w') : w.grownBy w' none := ⟨h.os, h.tape, h.output, h.size, fun k hk _ => h.block k hk⟩
theorem lit_slots (w : World) : Ow Sl.cells 3 93 (w.alloc (.cells #[.int .i64 0, .int .i64 0, .int .i64 0, .int .i64 0, .int .i64 0, .int .i64 0, .int .i64 0, .int .i64 0, .int .i64 0, .int .i64 0, .int .i64 0, .int .i64 0] 93)) w.heap.size (w.heap.size + 1) (.slice (some ⟨w.heap.size, 0, none⟩) 4 4) [⟨0, 0, 0⟩, ⟨0, 0, 0⟩, ⟨0, 0, 0⟩, ⟨0, 0, 0⟩] := by
 refine ⟨_, 4, rfl, Nat.le_refl _, by unfold maxLen; omega, fun _ => ⟨w.heap.size, 0, _, rfl, Nat.le_refl _, by omega, heap_alloc_new w _, by simp, fun k x hx j u hu => ?_⟩⟩
 rcases k with _ | _ | _ | _ | k <;> simp at hx <;> subst hx <;> rcases j with _ | _ | _ | j <;> simp [Sl.cells] at hu ⊢ <;> exact hu
theorem among_in (g k : Nat) (cv nv : Value) (l : List UInt8) (ns : List Int) (w : World) {lo hi lo2 hi2 : Nat} (h : Rd By.cells 1 w lo hi cv l) (hh : hi ≤ w.heap.size) (hg : g < lo ∨ hi ≤ g) (h2 : Rd Nm.cells 1 w lo2 hi2 nv ns) (hh2 : hi2 ≤ w.heap.size) (hg2 : g < lo2 ∨ hi2 ≤ g) (hn0 : 0 < ns.length) (hn1 : ns.length ≤ 1000000) (hc : Cur w g cv k) (hk : k ≤ 900000) :
  Calls Tryz.prog 57 #[.pointer (some ⟨g, 0, none⟩), nv] w fun e w' => ∃ x : Int, e = .returned (.int .i64 x) ∧ Hid (x ∈ ns) ∧ w.grownBy w' (some g) ∧ Cur w' g cv (k + 2) := by
 obtain ⟨A, n, c, rfl, H, hnc, hm⟩ := h2.form
 have hnl : n = ns.length := H.out
 have hn2 : 0 < n := by omega
 have hn3 : n ≤ 1000000 := by omega
 clear hnl
 have c1 := pick_any g k cv l n w h hh hg hc hk (by omega)
 go_enter Tryz.func57, Tryz.ntmps57
 go_wp2_with fail
 refine c1.mono ?_; rintro q_ w1 ⟨x, rfl, hx0, hx1, g1, k1⟩
 have hxn : x < (n : Int) := by omega
 obtain ⟨j, rfl⟩ : ∃ j : Nat, x = j := ⟨x.toNat, by omega⟩
 have hjn : j < n := by omega
 clear hx1
 have h3 := h2.grown g1 hh2 (fun q e => by injection e with e; omega)
 obtain ⟨b, off, y, rfl, hyy, _, _, f0⟩ := Nm.get h3 hjn (Below.refl w1.heap.size w1) (Nat.le_trans hh2 g1.size)
 go_wp2_with fail
 go_ret
 exact ⟨y, rfl, Lib.hid (List.mem_of_getElem? hyy.out), g1, k1⟩
theorem Sl.app_ow {w : World} {ops : Array Oper} {rest : List Oper} {o : Oper} {a : Act} {Q : Exit → Act → World → Prop} (hgd : o.guard = none) (s x : Operand)
  (ho : o.op = .call { callee := .builtin .append, args := #[s, x], argTypes := #[25, 25] }) {lo hi n c : Nat} {A : Option Addr} {l : List Sl} (hs : a.eval s = .slice A n c) (h : Ow Sl.cells 3 93 w lo hi (.slice A n c) l)
  (g cx : Nat) (y : Sl) (hx : a.eval x = .slice (some ⟨g, 0, none⟩) 1 cx) (hr : ∀ j u, (Sl.cells y)[j]? = some u → w.cell? ⟨g, j, none⟩ = some u) (hlen : n ≤ 4194304) (hlo : lo ≤ w.heap.size) (hhi : hi ≤ w.heap.size)
  (hk : ∀ v' w' row, Ow Sl.cells 3 93 w' lo w'.heap.size v' (l ++ [y]) → w.grownBy w' row → (∀ q, row = some q → lo ≤ q ∧ q < hi ∧ ∃ cur, w.heap[q]? = some (.cells cur 93 (0, 0))) → wpList Tryz.prog ops Q rest (a.put o.dst v') w') : wpList Tryz.prog ops Q (o :: rest) a w := by
 obtain ⟨i0, hi0, hz0, hz1, hz2⟩ := info_parts Sl.info
 exact wp_app_ow hgd s x _ ho _ i0 _ 3 _ Tryz.underlying25 hi0 hz0 hz1 hz2 rfl (by omega) Sl.cells_len Sl.one hs h g cx y hx hr (by unfold maxLen; omega) (by omega) hlo hhi hk
set_option maxRecDepth 8000 in
set_option maxHeartbeats 8000000 in
theorem slots_any (g k : Nat) (cv : Value) (l : List UInt8) (w : World) {lo hi : Nat} (h : Rd By.cells 1 w lo hi cv l) (hh : hi ≤ w.heap.size) (hg : g < lo ∨ hi ≤ g) (hc : Cur w g cv k) (hk : k ≤ 100000) :
  Calls Tryz.prog 125 #[.pointer (some ⟨g, 0, none⟩)] w fun e w' => ∃ v, ∃ ls : List Sl, e = .returned v ∧ ls.length ≤ 5 ∧ Sl.dis ls ∧ Ow Sl.cells 3 93 w' w.heap.size w'.heap.size v ls ∧ w.grownBy w' (some g) ∧ Cur w' g cv (k + 120) := by
 have hgl := hc.lt
 have hG := World.grownBy.refl w (some g)
 go_enter Tryz.func125, Tryz.ntmps125
 have o0 := lit_slots w
 have ga0 := grown_alloc w (.cells #[.int .i64 0, .int .i64 0, .int .i64 0, .int .i64 0, .int .i64 0, .int .i64 0, .int .i64 0, .int .i64 0, .int .i64 0, .int .i64 0, .int .i64 0, .int .i64 0] 93)
 have za0 : (w.alloc (.cells #[.int .i64 0, .int .i64 0, .int .i64 0, .int .i64 0, .int .i64 0, .int .i64 0, .int .i64 0, .int .i64 0, .int .i64 0, .int .i64 0, .int .i64 0, .int .i64 0] 93)).heap.size = w.heap.size + 1 := by simp
 have hg0 := Lib.hid Sl.good4
 go_wp2_with fail
 replace hc := hc.grown0 ga0
 replace h := h.grown ga0 (by omega) (fun q e => by cases e)
 replace hG := grown_trans hG (grown_weaken ga0)
 have z_1 := ga0.size
 clear ga0
 generalize w.alloc _ = wA at *
 generalize hK : w.heap.size = K at *
 have hK1 : K ≤ w.heap.size := by omega
 have hK2 : w.heap.size ≤ K := by omega
 clear hK
 refine (pick_any g _ _ l 9 wA h (by omega) hg hc (by omega) (by omega)).mono ?_; rintro q_ w2 ⟨x1, rfl, x1_0, x1_1, gg2, kk2⟩
 clear hc
 replace h := h.grown gg2 (by omega) (fun q e => by injection e with e; omega)
 replace o0 := o0.apart gg2 (fun q e => by injection e with e; omega)
 replace hG := grown_trans hG gg2
 have z_3 := gg2.size
 clear gg2
 obtain ⟨m, rfl⟩ : ∃ m : Nat, x1 = m := ⟨x1.toNat, by omega⟩
 have hm9 : m < 9 := by omega
 clear x1_0 x1_1
 go_wp2_with fail
 go_loopw [3, 4] (fun v3 v4 wr => ∃ (i q : Nat) (ls : List Sl), i + q = m ∧ v4 = .int .i64 q ∧ Hid (Sl.good ls = true) ∧ w.grownBy wr (some g) ∧ Cur wr g cv (k + 2 + 8 * i) ∧ K ≤ wr.heap.size ∧ Rd By.cells 1 wr lo hi cv l ∧ Ow Sl.cells 3 93 wr K wr.heap.size v3 ls) (fun _ v4 _ => (intOf v4).toNat)
 case atStart => exact ⟨0, m, _, by omega, rfl, hg0, hG, kk2.mono (by omega), by omega, h, o0.mono (Nat.le_refl _) (by omega)⟩
 case round =>
  clear kk2 hG h o0 hg0
  obtain ⟨i, q, ls, hiq, rfl, HGd, hG, hc, zw, h, o1⟩ := hrel
  rcases Nat.eq_zero_or_pos q with hq | hq
  rotate_left
  ·obtain ⟨p, rfl⟩ : ∃ p, q = p + 1 := ⟨q - 1, by omega⟩
   have hqd : decide ((0 : Int) < ((p + 1 : Nat) : Int)) = true := decide_eq_true (by omega)
   go_wp2_with fail
   refine (pick_any g _ _ l 4 wr h (by omega) hg hc (by omega) (by omega)).mono ?_; rintro q_ w101 ⟨y1, rfl, y1_0, y1_1, gg101, kk101⟩
   clear hc
   replace h := h.grown gg101 (by omega) (fun q e => by injection e with e; omega)
   replace o1 := o1.apart gg101 (fun q e => by injection e with e; omega)
   replace hG := grown_trans hG gg101
   have z_102 := gg101.size
   clear gg101
   rcases (show y1 = 0 ∨ y1 = 1 ∨ y1 = 2 ∨ y1 = 3 by omega) with rfl | rfl | rfl | rfl
   all_goals clear y1_0 y1_1
   ·go_wp2_with fail
    refine (pick_any g _ _ l 8 w101 h (by omega) hg kk101 (by omega) (by omega)).mono ?_; rintro q_ w103 ⟨y2, rfl, y2_0, y2_1, gg103, kk103⟩
    clear kk101
    replace h := h.grown gg103 (by omega) (fun q e => by injection e with e; omega)
    replace o1 := o1.apart gg103 (fun q e => by injection e with e; omega)
    replace hG := grown_trans hG gg103
    have z_104 := gg103.size
    clear gg103
    go_wp2_with fail
    refine (pick_any g _ _ l 8 w103 h (by omega) hg kk103 (by omega) (by omega)).mono ?_; rintro q_ w105 ⟨y3, rfl, y3_0, y3_1, gg105, kk105⟩
    clear kk103
    replace h := h.grown gg105 (by omega) (fun q e => by injection e with e; omega)
    replace o1 := o1.apart gg105 (fun q e => by injection e with e; omega)
    replace hG := grown_trans hG gg105
    have z_106 := gg105.size
    clear gg105
    go_wp2_with fail
    have cP := specPut_in _ ls y2 y3 w105 o1.rd (by omega) (by rw [Sl.good_len HGd.out]; decide)
    cases hk : Sl.putOk ls y2
    ·rw [hk] at cP
     refine (cP).mono ?_; rintro q_ w107 ⟨u1, rfl, o2, bb107⟩
     have gb107 := grown_below bb107
     clear bb107
     replace kk105 := kk105.grown0 gb107
     replace h := h.grown gb107 (by omega) (fun q e => by cases e)
     replace o1 := o1.apart gb107 (fun q e => by cases e)
     replace hG := grown_trans hG (grown_weaken gb107)
     have z_108 := gb107.size
     clear gb107
     clear cP hk
     go_wp2_with fail
     go_roundw
     case rel => exact ⟨i + 1, p, ls, by omega, by go_num, HGd, hG, kk105.mono (by omega), by omega, h, o1.mono (Nat.le_refl _) (by omega)⟩
     case measure => simp [intOf]
    ·rw [hk] at cP
     have HG2 := Lib.hid (Sl.good_put HGd.out (i := y2) (p := y3) (by omega) (by omega) hk)
     refine (cP).mono ?_; rintro q_ w107 ⟨u1, rfl, o2, bb107⟩
     have gb107 := grown_below bb107
     clear bb107
     replace kk105 := kk105.grown0 gb107
     replace h := h.grown gb107 (by omega) (fun q e => by cases e)
     replace o1 := o1.apart gb107 (fun q e => by cases e)
     replace hG := grown_trans hG (grown_weaken gb107)
     have z_108 := gb107.size
     clear gb107
     clear cP hk
     go_wp2_with fail
     go_roundw
     case rel => exact ⟨i + 1, p, _, by omega, by go_num, HG2, hG, kk105.mono (by omega), by omega, h, o2.mono (by omega) (by omega)⟩
     case measure => simp [intOf]
   ·go_wp2_with fail
    refine (pick_any g _ _ l 8 w101 h (by omega) hg kk101 (by omega) (by omega)).mono ?_; rintro q_ w103 ⟨y2, rfl, y2_0, y2_1, gg103, kk103⟩
    clear kk101
    replace h := h.grown gg103 (by omega) (fun q e => by injection e with e; omega)
    replace o1 := o1.apart gg103 (fun q e => by injection e with e; omega)
    replace hG := grown_trans hG gg103
    have z_104 := gg103.size
    clear gg103
    go_wp2_with fail
    refine (pick_any g _ _ l 8 w103 h (by omega) hg kk103 (by omega) (by omega)).mono ?_; rintro q_ w105 ⟨y3, rfl, y3_0, y3_1, gg105, kk105⟩
    clear kk103
    replace h := h.grown gg105 (by omega) (fun q e => by injection e with e; omega)
    replace o1 := o1.apart gg105 (fun q e => by injection e with e; omega)
    replace hG := grown_trans hG gg105
    have z_106 := gg105.size
    clear gg105
    go_wp2_with fail
    have cP := specPut_in _ ls y2 y3 w105 o1.rd (by omega) (by rw [Sl.good_len HGd.out]; decide)
    cases hk : Sl.putOk ls y2
    ·rw [hk] at cP
     refine (cP).mono ?_; rintro q_ w107 ⟨u1, rfl, o2, bb107⟩
     have gb107 := grown_below bb107
     clear bb107
     replace kk105 := kk105.grown0 gb107
     replace h := h.grown gb107 (by omega) (fun q e => by cases e)
     replace o1 := o1.apart gb107 (fun q e => by cases e)
     replace hG := grown_trans hG (grown_weaken gb107)
     have z_108 := gb107.size
     clear gb107
     clear cP hk
     go_wp2_with fail
     go_roundw
     case rel => exact ⟨i + 1, p, ls, by omega, by go_num, HGd, hG, kk105.mono (by omega), by omega, h, o1.mono (Nat.le_refl _) (by omega)⟩
     case measure => simp [intOf]
    ·rw [hk] at cP
     have HG2 := Lib.hid (Sl.good_put HGd.out (i := y2) (p := y3) (by omega) (by omega) hk)
     refine (cP).mono ?_; rintro q_ w107 ⟨u1, rfl, o2, bb107⟩
     have gb107 := grown_below bb107
     clear bb107
     replace kk105 := kk105.grown0 gb107
     replace h := h.grown gb107 (by omega) (fun q e => by cases e)
     replace o1 := o1.apart gb107 (fun q e => by cases e)
     replace hG := grown_trans hG (grown_weaken gb107)
     have z_108 := gb107.size
     clear gb107
     clear cP hk
     go_wp2_with fail
     go_roundw
     case rel => exact ⟨i + 1, p, _, by omega, by go_num, HG2, hG, kk105.mono (by omega), by omega, h, o2.mono (by omega) (by omega)⟩
     case measure => simp [intOf]
   ·go_wp2_with fail
    have cP := specTake_ow _ ls 16 w101 (o1.mono (Nat.le_refl _) (by omega)) (by omega) (Nat.le_refl _) HGd.out
    have HG2 := Lib.hid (Sl.good_tk HGd.out 16)
    refine (cP).mono ?_; rintro q_ w103 ⟨u1, rfl, o2, bb103⟩
    have gb103 := grown_below bb103
    clear bb103
    replace kk101 := kk101.grown0 gb103
    replace h := h.grown gb103 (by omega) (fun q e => by cases e)
    replace o1 := o1.apart gb103 (fun q e => by cases e)
    replace hG := grown_trans hG (grown_weaken gb103)
    have z_104 := gb103.size
    clear gb103
    clear cP
    go_wp2_with fail
    go_roundw
    case rel => exact ⟨i + 1, p, _, by omega, by go_num, HG2, hG, kk101.mono (by omega), by omega, h, o2.mono (by omega) (by omega)⟩
    case measure => simp [intOf]
   ·go_wp2_with fail
    refine (pick_any g _ _ l 8 w101 h (by omega) hg kk101 (by omega) (by omega)).mono ?_; rintro q_ w103 ⟨y2, rfl, y2_0, y2_1, gg103, kk103⟩
    clear kk101
    replace h := h.grown gg103 (by omega) (fun q e => by injection e with e; omega)
    replace o1 := o1.apart gg103 (fun q e => by injection e with e; omega)
    replace hG := grown_trans hG gg103
    have z_104 := gg103.size
    clear gg103
    go_wp2_with fail
    have cP := specEnd_in _ ls y2 w103 o1.rd (by omega) HGd.out
    cases hk : Sl.endOk ls y2
    ·rw [hk] at cP
     refine (cP).mono ?_; rintro q_ w105 ⟨u1, rfl, o2, bb105⟩
     have gb105 := grown_below bb105
     clear bb105
     replace kk103 := kk103.grown0 gb105
     replace h := h.grown gb105 (by omega) (fun q e => by cases e)
     replace o1 := o1.apart gb105 (fun q e => by cases e)
     replace hG := grown_trans hG (grown_weaken gb105)
     have z_106 := gb105.size
     clear gb105
     clear cP hk
     go_wp2_with fail
     go_roundw
     case rel => exact ⟨i + 1, p, ls, by omega, by go_num, HGd, hG, kk103.mono (by omega), by omega, h, o1.mono (Nat.le_refl _) (by omega)⟩
     case measure => simp [intOf]
    ·rw [hk] at cP
     have HG2 := Lib.hid (Sl.good_end HGd.out hk)
     refine (cP).mono ?_; rintro q_ w105 ⟨u1, rfl, o2, bb105⟩
     have gb105 := grown_below bb105
     clear bb105
     replace kk103 := kk103.grown0 gb105
     replace h := h.grown gb105 (by omega) (fun q e => by cases e)
     replace o1 := o1.apart gb105 (fun q e => by cases e)
     replace hG := grown_trans hG (grown_weaken gb105)
     have z_106 := gb105.size
     clear gb105
     clear cP hk
     go_wp2_with fail
     refine (one_any g _ _ l 2 w105 h (by omega) hg kk103 (by omega) (by omega)).mono ?_; rintro q_ w107 ⟨b3, rfl, gg107, kk107⟩
     clear kk103
     replace h := h.grown gg107 (by omega) (fun q e => by injection e with e; omega)
     replace o1 := o1.apart gg107 (fun q e => by injection e with e; omega)
     replace o2 := o2.apart gg107 (fun q e => by injection e with e; omega)
     replace hG := grown_trans hG gg107
     have z_108 := gg107.size
     clear gg107
     cases b3
     ·go_wp2_with fail
      go_roundw
      case rel => exact ⟨i + 1, p, ls, by omega, by go_num, HGd, hG, kk107.mono (by omega), by omega, h, o1.mono (Nat.le_refl _) (by omega)⟩
      case measure => simp [intOf]
     ·go_wp2_with fail
      go_roundw
      case rel => exact ⟨i + 1, p, _, by omega, by go_num, HG2, hG, kk107.mono (by omega), by omega, h, o2.mono (by omega) (by omega)⟩
      case measure => simp [intOf]
  obtain rfl : i = m := by omega
  subst hq
  have hl4 := Lib.hid (Sl.good_len HGd.out)
  obtain ⟨A1, n1, c1, rfl, H1, hnc1, hm1⟩ := o1.rd.form
  obtain rfl : n1 = 4 := by rw [H1.out, hl4.out]
  have hd1 := Lib.hid (Sl.dis_good HGd.out)
  clear H1
  go_wp2_with fail
  refine (pick_any g _ _ l 24 wr h (by omega) hg hc (by omega) (by omega)).mono ?_; rintro q_ w101 ⟨z1, rfl, z1_0, z1_1, gg101, kk101⟩
  clear hc
  replace h := h.grown gg101 (by omega) (fun q e => by injection e with e; omega)
  replace o1 := o1.apart gg101 (fun q e => by injection e with e; omega)
  replace hG := grown_trans hG gg101
  have z_102 := gg101.size
  clear gg101
  by_cases h0 : z1 = 0
  rotate_left
  by_cases h1 : z1 = 1
  rotate_left
  by_cases h2 : z1 = 2
  rotate_left
  ·have h0b : (z1 == 0) = false := by rw [beq_eq_false_iff_ne]; exact h0
   have h1b : (z1 == 1) = false := by rw [beq_eq_false_iff_ne]; exact h1
   have h2b : (z1 == 2) = false := by rw [beq_eq_false_iff_ne]; exact h2
   go_wp2_with fail
   go_ret
   exact ⟨_, _, rfl, by simp [hl4.out], hd1.out, o1.mono (by omega) (by omega), hG, kk101.mono (by omega)⟩
  ·subst h0
   go_wp2_with fail
   refine (pick_any g _ _ l 4 w101 h (by omega) hg kk101 (by omega) (by omega)).mono ?_; rintro q_ w103 ⟨y4, rfl, y4_0, y4_1, gg103, kk103⟩
   clear kk101
   replace h := h.grown gg103 (by omega) (fun q e => by injection e with e; omega)
   replace o1 := o1.apart gg103 (fun q e => by injection e with e; omega)
   replace hG := grown_trans hG gg103
   have z_104 := gg103.size
   clear gg103
   obtain ⟨j4, rfl⟩ : ∃ j : Nat, y4 = j := ⟨y4.toNat, by omega⟩
   have hj4 : j4 < 4 := by omega
   have hji : (j4 : Int) < 4 := by omega
   clear y4_0 y4_1
   go_wp2_with fail
   have rl := lit_ints w103 [-1, 4, 1] #[.int .i64 (-1), .int .i64 4, .int .i64 1] 3 rfl rfl (by decide)
   have ga105 := grown_alloc w103 (.cells #[.int .i64 (-1), .int .i64 4, .int .i64 1] 3)
   have za105 : (w103.alloc (.cells #[.int .i64 (-1), .int .i64 4, .int .i64 1] 3)).heap.size = w103.heap.size + 1 := by simp
   replace kk103 := kk103.grown0 ga105
   replace h := h.grown ga105 (by omega) (fun q e => by cases e)
   replace o1 := o1.apart ga105 (fun q e => by cases e)
   replace hG := grown_trans hG (grown_weaken ga105)
   have z_106 := ga105.size
   clear ga105
   generalize w103.alloc _ = w105 at *
   generalize hgz106 : w103.heap.size = gz106 at *
   clear hgz106
   refine (among_in g _ _ _ l [-1, 4, 1] w105 h (by omega) hg rl (by omega) (by omega) (by decide) (by decide) kk103 (by omega)).mono ?_; rintro q_ w107 ⟨s1, rfl, hin_s1, gg107, kk107⟩
   clear kk103
   replace h := h.grown gg107 (by omega) (fun q e => by injection e with e; omega)
   replace o1 := o1.apart gg107 (fun q e => by injection e with e; omega)
   replace hG := grown_trans hG gg107
   have z_108 := gg107.size
   clear gg107
   clear rl
   go_wp2_with fail
   have rl := lit_ints w107 [-1, 7, 8] #[.int .i64 (-1), .int .i64 7, .int .i64 8] 3 rfl rfl (by decide)
   have ga109 := grown_alloc w107 (.cells #[.int .i64 (-1), .int .i64 7, .int .i64 8] 3)
   have za109 : (w107.alloc (.cells #[.int .i64 (-1), .int .i64 7, .int .i64 8] 3)).heap.size = w107.heap.size + 1 := by simp
   replace kk107 := kk107.grown0 ga109
   replace h := h.grown ga109 (by omega) (fun q e => by cases e)
   replace o1 := o1.apart ga109 (fun q e => by cases e)
   replace hG := grown_trans hG (grown_weaken ga109)
   have z_110 := ga109.size
   clear ga109
   generalize w107.alloc _ = w109 at *
   generalize hgz110 : w107.heap.size = gz110 at *
   clear hgz110
   refine (among_in g _ _ _ l [-1, 7, 8] w109 h (by omega) hg rl (by omega) (by omega) (by decide) (by decide) kk107 (by omega)).mono ?_; rintro q_ w111 ⟨s2, rfl, hin_s2, gg111, kk111⟩
   clear kk107
   replace h := h.grown gg111 (by omega) (fun q e => by injection e with e; omega)
   replace o1 := o1.apart gg111 (fun q e => by injection e with e; omega)
   replace hG := grown_trans hG gg111
   have z_112 := gg111.size
   clear gg111
   clear rl
   go_wp2_with fail
   have rl := lit_ints w111 [-1, 15, 16] #[.int .i64 (-1), .int .i64 15, .int .i64 16] 3 rfl rfl (by decide)
   have ga113 := grown_alloc w111 (.cells #[.int .i64 (-1), .int .i64 15, .int .i64 16] 3)
   have za113 : (w111.alloc (.cells #[.int .i64 (-1), .int .i64 15, .int .i64 16] 3)).heap.size = w111.heap.size + 1 := by simp
   replace kk111 := kk111.grown0 ga113
   replace h := h.grown ga113 (by omega) (fun q e => by cases e)
   replace o1 := o1.apart ga113 (fun q e => by cases e)
   replace hG := grown_trans hG (grown_weaken ga113)
   have z_114 := ga113.size
   clear ga113
   generalize w111.alloc _ = w113 at *
   generalize hgz114 : w111.heap.size = gz114 at *
   clear hgz114
   refine (among_in g _ _ _ l [-1, 15, 16] w113 h (by omega) hg rl (by omega) (by omega) (by decide) (by decide) kk111 (by omega)).mono ?_; rintro q_ w115 ⟨s3, rfl, hin_s3, gg115, kk115⟩
   clear kk111
   replace h := h.grown gg115 (by omega) (fun q e => by injection e with e; omega)
   replace o1 := o1.apart gg115 (fun q e => by injection e with e; omega)
   replace hG := grown_trans hG gg115
   have z_116 := gg115.size
   clear gg115
   clear rl
   obtain ⟨b, off, t, rfl, HT, hb1, hb2, f0, f1, f2⟩ := Sl.get o1.rd hj4 (Below.refl w115.heap.size w115) (by omega)
   have hfz := o1.frozen (by omega)
   have hbW : b < w115.heap.size := by omega
   go_wp2_with fail
   have hs1 : Sl.isAct ⟨s1, s2, s3⟩ = false := by have := hin_s1.out; simp at this; rcases this with rfl | rfl | rfl <;> rfl
   clear hin_s1 hin_s2 hin_s3
   generalize hwz : World.setCell (World.setCell (World.setCell _ _ _) _ _) _ _ = wz_
   obtain rfl : wz_ = setL w115 b (off + j4 * 3) [.int .i64 s1, .int .i64 s2, .int .i64 s3] := hwz.symm
   clear hwz
   have oS := o1.upd Sl.cells_len (by omega) HT.out (t' := ⟨s1, s2, s3⟩) (Upd.of_setL (ys := [.int .i64 s1, .int .i64 s2, .int .i64 s3]) 0 rfl rfl (by simp))
   have gS := setL_grown [.int .i64 s1, .int .i64 s2, .int .i64 s3] w115 b (off + j4 * 3)
   have zS := setL_size [.int .i64 s1, .int .i64 s2, .int .i64 s3] w115 b (off + j4 * 3)
   replace hG := grown_new hG gS (fun q e => by injection e with e; omega)
   replace kk115 := kk115.other gS (by omega)
   generalize setL w115 b _ _ = wS at *
   go_ret
   exact ⟨_, _, rfl, by simp [hl4.out], Sl.dis_set hd1.out hs1 j4, oS.mono (by omega) (by omega), hG, kk115.mono (by omega)⟩
  ·subst h1
   have ga8 := grown_alloc w101 (.cells #[.int .i64 0, .int .i64 0, .int .i64 0] 93)
   have za8 : (w101.alloc (.cells #[.int .i64 0, .int .i64 0, .int .i64 0] 93)).heap.size = w101.heap.size + 1 := by simp
   have oL := o1.apart ga8 (fun q e => by cases e)
   go_wp2_with (at_builtin; (refine Sl.app_ow rfl _ _ rfl rfl oL w101.heap.size 1 ⟨0, 0, 0⟩ rfl (fun j u hu => cell_new _ _ _ rfl (by simpa [Sl.cells] using hu)) (by omega) (by omega) (by omega) ?_); (intro v8 w8 row8 o8 g8 r8))
   replace hG := grown_new (grown_trans hG (grown_weaken ga8)) g8 (fun q e => by have := r8 q e; omega)
   replace kk101 := (kk101.grown0 ga8).row g8 (fun b e => by have := r8 b e; omega)
   have z8 := g8.size
   go_ret
   exact ⟨_, _, rfl, by simp [hl4.out], Sl.dis_snoc hd1.out rfl, o8.mono (by omega) (by omega), hG, kk101.mono (by omega)⟩
  ·subst h2
   obtain ⟨b, off, t, rfl, HT, hb1, hb2, f0, f1, f2⟩ := Sl.get o1.rd (show 3 < 4 by omega) (Below.refl w101.heap.size w101) (by omega)
   have hfz := o1.frozen (by omega)
   have hbW : b < w101.heap.size := by omega
   go_wp2_with fail
   generalize hwz : World.setCell (World.setCell (World.setCell _ _ _) _ _) _ _ = wz_
   obtain rfl : wz_ = setL w101 b (off + 3 * 3) [.int .i64 0, .int .i64 1, .int .i64 0] := hwz.symm
   clear hwz
   have oS := o1.upd Sl.cells_len (by omega) HT.out (t' := ⟨0, 1, 0⟩) (Upd.of_setL (ys := [.int .i64 0, .int .i64 1, .int .i64 0]) 0 rfl rfl (by simp))
   have gS := setL_grown [.int .i64 0, .int .i64 1, .int .i64 0] w101 b (off + 3 * 3)
   have zS := setL_size [.int .i64 0, .int .i64 1, .int .i64 0] w101 b (off + 3 * 3)
   replace hG := grown_new hG gS (fun q e => by injection e with e; omega)
   replace kk101 := kk101.other gS (by omega)
   generalize setL w101 b _ _ = wS at *
   go_ret
   exact ⟨_, _, rfl, by simp [hl4.out], Sl.dis_set hd1.out rfl 3, oS.mono (by omega) (by omega), hG, kk101.mono (by omega)⟩

end Go.Proofs.YtndfmkbpdoohfaaGreat

/- slices.Insert of one waiting interrupt into a row of the call's own. Condition: the place lies in the row or at its end, at most 1048576 elements. -/
namespace Go.Proofs.YtndfmkbpdoohfaaGreat
open Go.RowKit Go.ChangeShapes Go.WideShapes Go.Deep

/-- copy into a row known whole, elements of any size -/
theorem run_copy_sz {P : Program} (w : World) (dT sT ty elem : TypeId) (i : TypeInfo) (g o dLen dCap : Nat) (a : Addr) (sLen sCap : Nat) (cur : List Value) (t : TypeId) (cs : List Value) (sz m : Nat)
  (hu : P.underlying dT = some (.slice elem)) (hi : P.info? elem = some i) (hs : i.size = sz)
  (hg : w.heap[g]? = some (.cells cur.toArray t (0, 0))) (hm : m = Nat.min sLen dLen) (hn : cs.length = m * sz)
  (hsrc : ∀ j v, cs[j]? = some v → w.cell? (a.add j) = some v) (hfit : o + cs.length ≤ cur.length) (h1 : ∀ v ∈ cs, v.oneCell' = true) :
  (Builtin.copy_ #[dT, sT] ty #[.slice (some ⟨g, o, none⟩) dLen dCap, .slice (some a) sLen sCap]).run P w =
   .ok (goInt m) (w.setRow g (splice cur o cs).toArray) := by
 have hl := run_loadCells_list (P := P) w a cs hsrc
 have hst := run_storeCells_at P g o t cs 0 cur.toArray w hg (by simpa using hfit) h1
 simp [Builtin.copy_, run_underlying hu, Builtin.lenOf, Builtin.firstCells, sizeOf, typeInfo, hi, hs, ← hm, ← hn, hl, hst, splice]

theorem wpList_copy_sz {P : Program} {w : World} {ops : Array Oper} {rest : List Oper} {o : Oper} {a : Act} {Q : Exit → Act → World → Prop} (hgd : o.guard = none) (d s : Operand) (dT sT : TypeId)
  (ho : o.op = .call { callee := .builtin .copy, args := #[d, s], argTypes := #[dT, sT] }) (elem : TypeId) (i : TypeInfo) (sz : Nat) (hu : P.underlying dT = some (.slice elem)) (hi : P.info? elem = some i) (hz : i.size = sz)
  (g off dLen dCap : Nat) (ad : Addr) (sLen sCap : Nat) (hd : a.eval d = .slice (some ⟨g, off, none⟩) dLen dCap) (hs : a.eval s = .slice (some ad) sLen sCap)
  (cur : List Value) (t : TypeId) (hg : w.heap[g]? = some (.cells cur.toArray t (0, 0))) (cs : List Value) (m : Nat) (hm : m = Nat.min sLen dLen) (hn : cs.length = m * sz)
  (hsrc : ∀ j v, cs[j]? = some v → w.cell? (ad.add j) = some v) (hfit : off + cs.length ≤ cur.length) (h1 : ∀ v ∈ cs, v.oneCell' = true) (B : Nat) (w0 : World) (hb : Below B w0 w) (hBg : B ≤ g)
  (h : ∀ w', Hid (w'.heap[g]? = some (.cells (splice cur off cs).toArray t (0, 0))) → Below B w0 w' → (∀ q, q ≠ g → w'.heap[q]? = w.heap[q]?) → wpList P ops Q rest (a.put o.dst (goInt m)) w') :
  wpList P ops Q (o :: rest) a w := by
 refine wpList_plain hgd fun K hK => ?_
 have hrun := run_copy_sz (P := P) w dT sT o.type elem i g off dLen dCap ad sLen sCap cur t cs sz m hu hi hz hg hm hn hsrc hfit h1
 unfold Oper.wp
 simp [execOp, ho, resolve, invoke, builtin, hd, hs, hrun, Result.andThen]
 exact hK _ _ (h _ (setRow_heap w g _ _ t _ hg) (below_setRow hb hBg _) fun q hq => setRow_other w g q _ hq)

theorem step_copy_sz {P : Program} {ops : Array Oper} {o : Oper} {a : Act} {w : World} {K : Act → World → Prop} {Q : Exit → Act → World → Prop} {E : Prop} (hgd : o.guard = none) (d s : Operand) (dT sT : TypeId)
  (ho : o.op = .call { callee := .builtin .copy, args := #[d, s], argTypes := #[dT, sT] }) (elem : TypeId) (i : TypeInfo) (sz : Nat) (hu : P.underlying dT = some (.slice elem)) (hi : P.info? elem = some i) (hz : i.size = sz)
  (g off dLen dCap : Nat) (ad : Addr) (sLen sCap : Nat) (hd : a.eval d = .slice (some ⟨g, off, none⟩) dLen dCap) (hs : a.eval s = .slice (some ad) sLen sCap)
  (cur : List Value) (t : TypeId) (hg : w.heap[g]? = some (.cells cur.toArray t (0, 0))) (cs : List Value) (m : Nat) (hm : m = Nat.min sLen dLen) (hn : cs.length = m * sz)
  (hsrc : ∀ j v, cs[j]? = some v → w.cell? (ad.add j) = some v) (hfit : off + cs.length ≤ cur.length) (h1 : ∀ v ∈ cs, v.oneCell' = true) (B : Nat) (w0 : World) (hb : Below B w0 w) (hBg : B ≤ g)
  (h : ∀ w', Hid (w'.heap[g]? = some (.cells (splice cur off cs).toArray t (0, 0))) → Below B w0 w' → (∀ q, q ≠ g → w'.heap[q]? = w.heap[q]?) → K (a.put o.dst (goInt m)) w') :
  if Region.wanted o (yielded ops a.tmps) = true then Oper.wp P o a w K Q else E := by
 have hw : Region.wanted o (yielded ops a.tmps) = true := by simp [Region.wanted, hgd]
 rw [if_pos hw]
 have hrun := run_copy_sz (P := P) w dT sT o.type elem i g off dLen dCap ad sLen sCap cur t cs sz m hu hi hz hg hm hn hsrc hfit h1
 unfold Oper.wp
 simp [execOp, ho, resolve, invoke, builtin, hd, hs, hrun, Result.andThen]
 exact h _ (setRow_heap w g _ _ t _ hg) (below_setRow hb hBg _) fun q hq => setRow_other w g q _ hq

/-- shifting in place, then the new one -/
theorem splice_room {α : Type} (L X Y : List α) (a : Nat) (ha : a ≤ X.length) (hL : L.take X.length = X) (hl : X.length + Y.length ≤ L.length) :
  (splice (splice L (a + Y.length) (X.drop a)) a Y).take (X.length + Y.length) = X.take a ++ Y ++ X.drop a := by
 have h1 : L.take a = X.take a := by rw [← hL, List.take_take, Nat.min_eq_left (by omega)]
 have e1 : (L.take (a + Y.length)).length = a + Y.length := by simp; omega
 have e2 : (splice L (a + Y.length) (X.drop a)).take a = X.take a := by
  unfold splice
  rw [List.take_append_of_le_length (by omega), List.take_take, Nat.min_eq_left (by omega), h1]
 have e3 : (splice L (a + Y.length) (X.drop a)).drop (a + Y.length) = X.drop a ++ L.drop (a + Y.length + (X.drop a).length) := by
  unfold splice
  rw [List.drop_append_of_le_length (by omega), List.drop_eq_nil_of_le (by omega)]; simp
 rw [splice, e2, e3]
 have e4 : X.take a ++ (Y ++ (X.drop a ++ L.drop (a + Y.length + (X.drop a).length))) = (X.take a ++ Y ++ X.drop a) ++ L.drop (a + Y.length + (X.drop a).length) := by simp
 rw [e4, List.take_append_of_le_length (by simp; omega), List.take_of_length_le (by simp; omega)]
/-- a new row: what stood ahead, the new one, what stood behind -/
theorem splice_grow {α : Type} (L X Y : List α) (a : Nat) (ha : a ≤ X.length) (hL : L.take a = X.take a) :
  (splice (splice L a Y) (a + Y.length) (X.drop a)).take (X.length + Y.length) = X.take a ++ Y ++ X.drop a := by
 have e2 : (splice L a Y).take (a + Y.length) = X.take a ++ Y := by
  unfold splice
  rw [hL, ← List.append_assoc, List.take_append_of_le_length (by simp; omega), List.take_of_length_le (by simp; omega)]
 rw [splice, e2]
 have e4 : X.take a ++ Y ++ (X.drop a ++ (splice L a Y).drop (a + Y.length + (X.drop a).length)) = (X.take a ++ Y ++ X.drop a) ++ (splice L a Y).drop (a + Y.length + (X.drop a).length) := by simp
 rw [e4, List.take_append_of_le_length (by simp; omega), List.take_of_length_le (by simp; omega)]

theorem flat_take {α β : Type} {f : α → List β} {sz : Nat} (hf : ∀ x, (f x).length = sz) : ∀ (l : List α) (i : Nat), (l.take i).flatMap f = (l.flatMap f).take (i * sz)
 | [], i => by simp
 | x :: l, 0 => by simp
 | x :: l, i + 1 => by
  have h1 : (i + 1) * sz = (f x).length + i * sz := by rw [hf x, Nat.add_mul]; omega
  rw [List.take_succ_cons, List.flatMap_cons, List.flatMap_cons, flat_take hf l i, h1, List.take_length_add_append]
theorem flat_drop {α β : Type} {f : α → List β} {sz : Nat} (hf : ∀ x, (f x).length = sz) : ∀ (l : List α) (i : Nat), (l.drop i).flatMap f = (l.flatMap f).drop (i * sz)
 | [], i => by simp
 | x :: l, 0 => by simp
 | x :: l, i + 1 => by
  have h1 : (i + 1) * sz = (f x).length + i * sz := by rw [hf x, Nat.add_mul]; omega
  rw [List.drop_succ_cons, List.flatMap_cons, flat_drop hf l i, h1, List.drop_length_add_append]

set_option maxHeartbeats 2000000 in
theorem Wt.insert_end (v : Value) (l : List Wt) (x : Wt) (vb : Nat) (w w0 : World) (hb0 : Below w0.heap.size w0 w)
  (hown : w.ownsRow w0.heap.size 107 2 v l.length (l.flatMap Wt.cells)) (hlen : l.length ≤ 1048576)
  (hx : w.heap[vb]? = some (.cells #[.int .i64 x.irq, .int .i64 x.prio] 107 (0, 0))) :
  Calls Tryz.prog 148 #[v, .int .i64 l.length, .slice (some ⟨vb, 0, none⟩) 1 1] w fun e w' => ∃ v', e = .returned v' ∧ w'.ownsRow w0.heap.size 107 2 v' (l.length + 1) ((l ++ [x]).flatMap Wt.cells) ∧ Below w0.heap.size w0 w' := by
 obtain ⟨A, n, c, rfl, H, hc, hm⟩ := (Ow.of_own Wt.cells_len hown rfl rfl).rd.form
 have hlen' : n ≤ 1048576 := by rw [H.out]; exact hlen
 rw [show l.length = n from H.out.symm] at hown ⊢
 clear hlen
 have hfl : (l ++ [x]).flatMap Wt.cells = l.flatMap Wt.cells ++ Wt.cells x := by simp
 rw [hfl]
 generalize l.flatMap Wt.cells = xs at *
 clear hfl H
 have hbs := hb0.size
 have hr : ∀ j u, (Wt.cells x)[j]? = some u → w.cell? ⟨vb, j, none⟩ = some u := fun j u hu => by
  simp only [World.cell?, hx]
  simpa [Wt.cells] using hu
 clear hx
 rcases hown.2 with ⟨e, rfl⟩ | ⟨g, cap, cur, e, hg, hh, _⟩
 ·injection e with e1 e2 e3
  subst e1; subst e3
  clear e2
  go_enter Tryz.func148, Tryz.ntmps148
  go_wp2_with (at_builtin; (refine Wt.app_one rfl _ _ rfl w0.heap.size _ 0 xs rfl hown x rfl hr (by omega) (by omega) ?_); (rintro v' w' h1 h2))
  go_ret
  exact ⟨_, rfl, h1, hb0.grown h2 hbs (own_ge hown)⟩
 ·injection e with e1 e2 e3
  subst e1; subst e3
  clear e2
  by_cases hcn : c = n
  ·subst hcn
   go_enter Tryz.func148, Tryz.ntmps148
   go_wp2_with (at_builtin; (refine Wt.app_one rfl _ _ rfl w0.heap.size _ c xs rfl hown x rfl hr (by omega) (by omega) ?_); (rintro v' w' h1 h2))
   go_ret
   exact ⟨_, rfl, h1, hb0.grown h2 hbs (own_ge hown)⟩
  ·go_enter Tryz.func148, Tryz.ntmps148
   go_wp2_with (at_builtin; (refine Wt.app_one rfl _ _ rfl w0.heap.size _ n xs rfl hown x rfl hr (by omega) (by omega) ?_); (rintro v' w' h1 h2))
   go_ret
   exact ⟨_, rfl, h1, hb0.grown h2 hbs (own_ge hown)⟩

set_option maxHeartbeats 4000000 in
set_option maxRecDepth 100000 in
theorem Wt.insert_room (g c i n : Nat) (cur : Array Value) (xs : List Value) (l : List Wt) (x : Wt) (vb : Nat) (w w0 : World) (hb0 : Below w0.heap.size w0 w)
  (hg : w0.heap.size ≤ g) (hh : w.heap[g]? = some (.cells cur 107 (0, 0))) (hi : i < n) (hroom : n + 1 ≤ c) (hc : c ≤ maxLen) (hsz : cur.size = c * 2) (hxs : cur.toList.take (n * 2) = xs) (hxl : xs.length = n * 2)
  (hl : xs = l.flatMap Wt.cells)
  (hx : w.heap[vb]? = some (.cells #[.int .i64 x.irq, .int .i64 x.prio] 107 (0, 0))) (hne : vb ≠ g) :
  Calls Tryz.prog 148 #[.slice (some ⟨g, 0, none⟩) n c, .int .i64 i, .slice (some ⟨vb, 0, none⟩) 1 1] w fun e w' => e = .returned (.slice (some ⟨g, 0, none⟩) (n + 1) c) ∧ w'.ownsRow w0.heap.size 107 2 (.slice (some ⟨g, 0, none⟩) (n + 1) c) (n + 1) (xs.take (i * 2) ++ Wt.cells x ++ xs.drop (i * 2)) ∧ Below w0.heap.size w0 w' := by
 have hbs := hb0.size
 obtain ⟨i0, hi0, hz0, hz1, hz2⟩ := info_parts Wt.info
 have ksz : ∀ w, (Go.sizeOf 107).run Tryz.prog w = .ok 2 w := fun w => by simp [sizeOf, typeInfo, hi0, hz1]
 have h1v : ∀ v ∈ xs, v.oneCell' = true := by
  subst hl
  intro v hv
  obtain ⟨y, _, hy⟩ := List.mem_flatMap.1 hv
  exact Wt.one y v hy
 have hov : ∀ lb cb, (callFunc 150 #[.slice (some ⟨vb, 0, none⟩) 1 1, .slice (some ⟨g, (i + 1) * 2, none⟩) lb cb]).run Tryz.prog w = .ok (.value (.bool false)) w := fun lb cb => by
  rw [run_callFunc_extern Tryz.func150 (by kernel_rfl) (by kernel_rfl) (by kernel_rfl) (e := Extern.SlicesOverlaps.overlaps #[26, 26] #[4]) (by kernel_rfl),
   Lib.run_overlaps_apart w 26 4 107 Tryz.underlying26 2 ksz ⟨vb, 0, none⟩ ⟨g, (i + 1) * 2, none⟩ 1 1 lb cb hne 107 107 2 (c * 2) (by simp [World.shape?, hx]) (by simp [World.shape?, hh, hsz]) (by omega) (by simp [World.frozen?, hx]) (by simp [World.frozen?, hx])]
  rfl
 have hw1 : IntKind.i64.wrap ((i : Int) + 1) = (i : Int) + 1 := by rw [IntKind.wrap_i64]; unfold maxLen at hc; omega
 have hi1 : ((i : Int) + 1).toNat = i + 1 := by omega
 have hq1 : ¬ ((i : Int) = (n : Int)) := by omega
 have hq2 : ¬ (c = i) := by omega
 have hq3 : ¬ (c = i + 1) := by omega
 have hsrc : ∀ (W : World), W.heap[g]? = some (.cells cur 107 (0, 0)) → ∀ j v, (xs.drop (i * 2))[j]? = some v → W.cell? ((⟨g, i * 2, none⟩ : Addr).add j) = some v := fun W hW j v hj => by
  rw [List.getElem?_drop, ← hxs, List.getElem?_take] at hj
  split at hj
  ·rw [Go.WideShapes.add_plain]
   simp only [World.cell?, hW]
   simpa using hj
  ·cases hj
 have hcl : (xs.drop (i * 2)).length = (n - i) * 2 := by rw [List.length_drop, hxl]; omega
 have hgE : w.drew.heap[g]? = some (.cells cur.toList.toArray 107 (0, 0)) := by show w.heap[g]? = _; simpa using hh
 have hcz : cur.toList.length = c * 2 := by simpa using hsz
 have hxf : xs.take (i * 2) ++ Wt.cells x ++ xs.drop (i * 2) = (splice (splice cur.toList ((i + 1) * 2) (xs.drop (i * 2))) (i * 2) (Wt.cells x)).take ((n + 1) * 2) := by
  have h := splice_room cur.toList xs (Wt.cells x) (i * 2) (by omega) (by rw [hxl]; exact hxs) (by rw [hxl, hcz, Wt.cells_len]; omega)
  rw [Wt.cells_len, hxl, show n * 2 + 2 = (n + 1) * 2 by omega, show i * 2 + 2 = (i + 1) * 2 by omega] at h
  exact h.symm
 have hsl : (splice cur.toList ((i + 1) * 2) (xs.drop (i * 2))).length = c * 2 := by rw [length_splice _ _ _ (by rw [hcl, hcz]; omega), hcz]
 rw [hxf]
 obtain ⟨Y, hY⟩ : ∃ Y, Y = splice cur.toList ((i + 1) * 2) (xs.drop (i * 2)) := ⟨_, rfl⟩
 obtain ⟨X2, hX2⟩ : ∃ X2, X2 = xs.drop (i * 2) := ⟨_, rfl⟩
 rw [← hY] at hsl ⊢
 rw [← hX2] at hY hsrc hcl
 have h1x : ∀ v ∈ X2, v.oneCell' = true := fun v hv => h1v v (List.mem_of_mem_drop (by rw [hX2] at hv; exact hv))
 unfold maxLen at hc
 clear hX2 hxf hl h1v hxs hxl
 have HY := Lib.hid hY
 clear hY
 go_enter Tryz.func148, Tryz.ntmps148
 go_wp2_with (simp only [hov])
 refine wp_region_any (by kernel_rfl) ?_
 refine wpAny_take (i := 0) (v := .slice (some ⟨g, 0, none⟩) (n + 1) c) rfl (by kernel_rfl) (by kernel_rfl) (by kernel_rfl) (fun _ _ _ h => h) (Or.inl ⟨by rfl, by intro w; go_simp⟩) ?_
 refine wpAny_take (i := 1) (v := .int .i64 i) rfl (by kernel_rfl) (by kernel_rfl) (by kernel_rfl) (fun _ _ _ h => h) (Or.inl ⟨by rfl, by intro w; go_simp⟩) ?_
 refine wpAny_take (i := 2) (v := .int .i64 1) rfl (by kernel_rfl) (by kernel_rfl) (by kernel_rfl) (fun _ _ _ h => h) (Or.inl ⟨by rfl, by intro w; go_simp⟩) ?_
 refine wpAny_take (i := 3) (v := .int .i64 ((i : Int) + 1)) rfl (by kernel_rfl) (by kernel_rfl) (by kernel_rfl) (fun _ _ _ h => h) (Or.inl ⟨by rfl, by intro w; go_simp⟩) ?_
 refine wpAny_take (i := 4) (v := .slice (some ⟨g, (i + 1) * 2, none⟩) (n - i) (c - (i + 1))) rfl (by kernel_rfl) (by kernel_rfl) (by kernel_rfl) (fun _ _ _ h => h) (Or.inl ⟨by rfl, by intro w; go_simp; (intros; exfalso; omega)⟩) ?_
 refine wpAny_take (i := 5) (v := .slice (some ⟨g, 0, none⟩) (n + 1) c) rfl (by kernel_rfl) (by kernel_rfl) (by kernel_rfl) (fun _ _ _ h => h) (Or.inl ⟨by rfl, by intro w; go_simp⟩) ?_
 refine wpAny_take (i := 6) (v := .int .i64 i) rfl (by kernel_rfl) (by kernel_rfl) (by kernel_rfl) (fun _ _ _ h => h) (Or.inl ⟨by rfl, by intro w; go_simp⟩) ?_
 refine wpAny_take (i := 7) (v := .slice (some ⟨g, i * 2, none⟩) (n + 1 - i) (c - i)) rfl (by kernel_rfl) (by kernel_rfl) (by kernel_rfl) (fun _ _ _ h => h) (Or.inl ⟨by rfl, by intro w; go_simp; (intros; exfalso; omega)⟩) ?_
 generalize hwd : (World.mk w.heap w.tape (w.drawn + 1) w.os w.output) = wd
 have hgD : wd.heap[g]? = some (.cells cur.toList.toArray 107 (0, 0)) := by rw [← hwd]; exact hgE
 have hxD : wd.heap[vb]? = some (.cells #[.int .i64 x.irq, .int .i64 x.prio] 107 (0, 0)) := by rw [← hwd]; exact hx
 have hbD : Below w0.heap.size w0 wd := by rw [← hwd]; exact hb0.drew
 have hsD := hsrc wd (by rw [← hwd]; exact hh)
 clear hov hsrc hwd hgE hx hb0 hh
 refine wpAny_ready (rs := [8]) (by kernel_rfl) (by decide) ?_
 refine AllReady.cons rfl (fun K hK => ?_) AllReady.nil
 refine step_copy_sz rfl _ _ _ _ rfl 107 i0 2 Tryz.underlying26 hi0 hz1 g ((i + 1) * 2) (n - i) (c - (i + 1)) ⟨g, i * 2, none⟩ (n + 1 - i) (c - i) (by kernel_rfl) (by kernel_rfl) cur.toList 107 hgD X2 (n - i) (by simp only [Nat.min_def]; split <;> omega) hcl hsD (by rw [hcl, hcz]; omega) h1x w0.heap.size w0 hbD hg ?_
 intro w1 hg1 hb1 ho1
 refine hK _ _ ?_
 refine ⟨by kernel_rfl, ?_⟩
 have hx1 : ∀ j u, (Wt.cells x)[j]? = some u → w1.cell? ((⟨vb, 0, none⟩ : Addr).add j) = some u := fun j u hu => by
  rw [Go.WideShapes.add_plain, Nat.zero_add]
  simp only [World.cell?, ho1 vb hne, hxD]
  simpa [Wt.cells] using hu
 have hg2 : w1.heap[g]? = some (.cells Y.toArray 107 (0, 0)) := by rw [HY.out]; exact hg1.out
 have h2x : ∀ v ∈ Wt.cells x, v.oneCell' = true := fun v hv => Wt.one x v hv
 clear hg1
 go_wp2_with ((refine wpList_copy_sz rfl _ _ _ _ rfl 107 i0 2 Tryz.underlying26 hi0 hz1 g (i * 2) (n + 1 - i) (c - i) ⟨vb, 0, none⟩ 1 1 (by kernel_rfl) (by kernel_rfl) Y 107 hg2 (Wt.cells x) 1 (by simp only [Nat.min_def]; split <;> omega) (by rw [Wt.cells_len]) hx1 (by rw [Wt.cells_len, hsl]; omega) h2x w0.heap.size w0 hb1 hg ?_); (intro w2 hg3 hb2 ho2))
 go_ret
 have hlen : (splice Y (i * 2) (Wt.cells x)).length = c * 2 := by rw [length_splice _ _ _ (by rw [Wt.cells_len, hsl]; omega), hsl]
 exact ⟨rfl, ⟨by rw [List.length_take, hlen]; omega, .inr ⟨g, c, _, rfl, hg, hg3.out, hroom, by unfold maxLen; omega, by simpa using hlen, by simp⟩⟩, hb2⟩

set_option maxHeartbeats 4000000 in
set_option maxRecDepth 100000 in
theorem Wt.insert_grow (g c i n : Nat) (cur : Array Value) (xs : List Value) (l : List Wt) (x : Wt) (vb : Nat) (w w0 : World) (hb0 : Below w0.heap.size w0 w)
  (hh : w.heap[g]? = some (.cells cur 107 (0, 0))) (hi : i < n) (hnc : n ≤ c) (hroom : c < n + 1) (hn : n ≤ 1048576) (hxs : cur.toList.take (n * 2) = xs) (hxl : xs.length = n * 2)
  (hl : xs = l.flatMap Wt.cells)
  (hx : w.heap[vb]? = some (.cells #[.int .i64 x.irq, .int .i64 x.prio] 107 (0, 0))) :
  Calls Tryz.prog 148 #[.slice (some ⟨g, 0, none⟩) n c, .int .i64 i, .slice (some ⟨vb, 0, none⟩) 1 1] w fun e w' => ∃ v', e = .returned v' ∧ w'.ownsRow w0.heap.size 107 2 v' (n + 1) (xs.take (i * 2) ++ Wt.cells x ++ xs.drop (i * 2)) ∧ Below w0.heap.size w0 w' := by
 have hbs := hb0.size
 obtain ⟨i0, hi0, hz0, hz1, hz2⟩ := info_parts Wt.info
 have h1v : ∀ v ∈ xs, v.oneCell' = true := by
  subst hl
  intro v hv
  obtain ⟨y, _, hy⟩ := List.mem_flatMap.1 hv
  exact Wt.one y v hy
 have hgw : g < w.heap.size := (Array.getElem?_eq_some_iff.1 hh).1
 have hvw : vb < w.heap.size := (Array.getElem?_eq_some_iff.1 hx).1
 have hcell : ∀ (W : World), W.heap[g]? = w.heap[g]? → ∀ o j v, (xs.drop o)[j]? = some v → W.cell? ((⟨g, o, none⟩ : Addr).add j) = some v := fun W hW o j v hj => by
  rw [List.getElem?_drop, ← hxs, List.getElem?_take] at hj
  split at hj
  ·rw [Go.WideShapes.add_plain]
   simp only [World.cell?, hW, hh]
   simpa using hj
  ·cases hj
 obtain ⟨w1, G, ROW, hrz, hN, hO, hb1, hG1, hG2, hRz, hRt⟩ : ∃ (w1 : World) (G : Nat) (ROW : List Value), (∀ ty, (Builtin.append_ #[26, 3] ty #[.slice (some ⟨g, 0, none⟩) i c, .int .i64 ((n : Int) + 1 - (i : Int))]).run Tryz.prog w = .ok (.slice (some ⟨w.heap.size, 0, none⟩) (n + 1) G) w1) ∧
   w1.heap[w.heap.size]? = some (.cells ROW.toArray 107 (0, 0)) ∧ (∀ q, q < w.heap.size → w1.heap[q]? = w.heap[q]?) ∧ Below w0.heap.size w0 w1 ∧ n + 1 ≤ G ∧ G ≤ maxLen ∧ ROW.length = G * 2 ∧ ROW.take (i * 2) = xs.take (i * 2) := by
  have hold : (Builtin.firstCells i0.size i (.slice (some ⟨g, 0, none⟩) i c)).run Tryz.prog w.drew = .ok (xs.take (i * 2)).toArray w.drew := by
   rw [hz1]
   exact run_firstCells_some w.drew 2 i ⟨g, 0, none⟩ i c (xs.take (i * 2)) (by rw [List.length_take, hxl]; omega) (fun j v hj => by
    rw [List.getElem?_take] at hj
    split at hj
    ·exact hcell w.drew rfl 0 j v (by simpa using hj)
    ·cases hj)
  have hkk : (n : Int) + 1 - (i : Int) = ((n + 1 - i : Nat) : Int) := by omega
  have h := fun ty => Lib.run_append_grow_zeros w 26 3 ty 107 i0 _ .i64 .i64 Tryz.underlying26 Tryz.underlying3 hi0 hz0 (some ⟨g, 0, none⟩) i c (xs.take (i * 2)) hold (n + 1 - i) (by omega) (by omega) (by omega) (by omega) (by rw [hz2]; omega) (by rw [hz2, show i + (n + 1 - i) = n + 1 by omega]; exact growslice_fits hroom (by omega))
  rw [show i + (n + 1 - i) = n + 1 by omega] at h
  refine ⟨_, _, ((xs.take (i * 2)).toArray ++ Builtin.zeroCells (Value.agg #[.int .i64 0, .int .i64 0]).cells (n + 1 - i) ++ Builtin.zeroCells (Value.agg #[.int .i64 0, .int .i64 0]).cells (grownCap w (n + 1) c 107 - (n + 1))).toList, fun ty => (by rw [hkk]; exact h ty), ?_, fun q hq => ?_, hb0.drew.alloc hbs _, grownCap_ge w _ _ _, grownCap_le_maxLen w (n + 1) c 107 (by unfold maxLen; omega), ?_, ?_⟩
  ·rw [Array.toArray_toList]; exact heap_alloc_new w.drew _
  ·exact heap_alloc_old w.drew _ hq
  ·have := grownCap_ge w (n + 1) c 107
   simp [Builtin.zeroCells, Value.cells, hxl]
   omega
  ·have hlx : (xs.take (i * 2)).length = i * 2 := by rw [List.length_take, hxl]; omega
   simp only [Array.toList_append, List.append_assoc]
   rw [List.take_append_of_le_length (by omega), List.take_of_length_le (by omega)]
 have hw1 : IntKind.i64.wrap ((i : Int) + 1) = (i : Int) + 1 := by rw [IntKind.wrap_i64]; omega
 have hi1 : ((i : Int) + 1).toNat = i + 1 := by omega
 have hq1 : ¬ ((i : Int) = (n : Int)) := by omega
 have hq2 : ¬ (c = i) := by omega
 have hq3 : ¬ (G = i + 1) := by omega
 have hq4 : ¬ (G = i) := by omega
 have hz3 : (c : Int) < (n : Int) + 1 := by omega
 have hgN : w0.heap.size ≤ w.heap.size := hbs
 have hx1 : ∀ j u, (Wt.cells x)[j]? = some u → w1.cell? ((⟨vb, 0, none⟩ : Addr).add j) = some u := fun j u hu => by
  rw [Go.WideShapes.add_plain, Nat.zero_add]
  simp only [World.cell?, hO vb hvw, hx]
  simpa [Wt.cells] using hu
 have h2x : ∀ v ∈ Wt.cells x, v.oneCell' = true := fun v hv => Wt.one x v hv
 have hcl : (xs.drop (i * 2)).length = (n - i) * 2 := by rw [List.length_drop, hxl]; omega
 have hYl : (splice ROW (i * 2) (Wt.cells x)).length = G * 2 := by rw [length_splice _ _ _ (by rw [Wt.cells_len, hRz]; omega), hRz]
 have hxf : xs.take (i * 2) ++ Wt.cells x ++ xs.drop (i * 2) = (splice (splice ROW (i * 2) (Wt.cells x)) ((i + 1) * 2) (xs.drop (i * 2))).take ((n + 1) * 2) := by
  have h := splice_grow ROW xs (Wt.cells x) (i * 2) (by omega) hRt
  rw [Wt.cells_len, hxl, show n * 2 + 2 = (n + 1) * 2 by omega, show i * 2 + 2 = (i + 1) * 2 by omega] at h
  exact h.symm
 have hsD : ∀ (W : World), W.heap[g]? = w.heap[g]? → ∀ j v, (xs.drop (i * 2))[j]? = some v → W.cell? ((⟨g, i * 2, none⟩ : Addr).add j) = some v := fun W hW j v hj => hcell W hW (i * 2) j v hj
 have h1x : ∀ v ∈ xs.drop (i * 2), v.oneCell' = true := fun v hv => h1v v (List.mem_of_mem_drop hv)
 rw [hxf]
 obtain ⟨Y, hY⟩ : ∃ Y, Y = splice ROW (i * 2) (Wt.cells x) := ⟨_, rfl⟩
 rw [← hY] at hYl ⊢
 generalize xs.drop (i * 2) = X2 at *
 clear hxf hl h1v hxs hxl hx hRt hcell
 have HY := Lib.hid hY
 clear hY
 have hN' : g ≠ w.heap.size := by omega
 go_enter Tryz.func148, Tryz.ntmps148
 go_wp2_with (first
  | (at_builtin; refine Lib.wpList_append_run _ rfl _ _ _ _ rfl _ _ rfl rfl _ _ (hrz _) ?_)
  | ((refine wpList_copy_sz rfl _ _ _ _ rfl 107 i0 2 Tryz.underlying26 hi0 hz1 w.heap.size (i * 2) (n + 1 - i) (G - i) ⟨vb, 0, none⟩ 1 1 (by kernel_rfl) (by kernel_rfl) ROW 107 hN (Wt.cells x) 1 (by simp only [Nat.min_def]; split <;> omega) (by rw [Wt.cells_len]) hx1 (by rw [Wt.cells_len, hRz]; omega) h2x w0.heap.size w0 hb1 hgN ?_); (intro w2 hg2 hb2 ho2)))
 refine wp_region_any (by kernel_rfl) ?_
 refine wpAny_take (i := 0) (v := .slice (some ⟨w.heap.size, 0, none⟩) (n + 1) G) rfl (by kernel_rfl) (by kernel_rfl) (by kernel_rfl) (fun _ _ _ h => h) (Or.inl ⟨by rfl, by intro w; go_simp⟩) ?_
 refine wpAny_take (i := 1) (v := .int .i64 i) rfl (by kernel_rfl) (by kernel_rfl) (by kernel_rfl) (fun _ _ _ h => h) (Or.inl ⟨by rfl, by intro w; go_simp⟩) ?_
 refine wpAny_take (i := 2) (v := .int .i64 1) rfl (by kernel_rfl) (by kernel_rfl) (by kernel_rfl) (fun _ _ _ h => h) (Or.inl ⟨by rfl, by intro w; go_simp⟩) ?_
 refine wpAny_take (i := 3) (v := .int .i64 ((i : Int) + 1)) rfl (by kernel_rfl) (by kernel_rfl) (by kernel_rfl) (fun _ _ _ h => h) (Or.inl ⟨by rfl, by intro w; go_simp⟩) ?_
 refine wpAny_take (i := 4) (v := .slice (some ⟨w.heap.size, (i + 1) * 2, none⟩) (n - i) (G - (i + 1))) rfl (by kernel_rfl) (by kernel_rfl) (by kernel_rfl) (fun _ _ _ h => h) (Or.inl ⟨by rfl, by intro w; go_simp; (intros; exfalso; omega)⟩) ?_
 refine wpAny_take (i := 5) (v := .slice (some ⟨g, 0, none⟩) n c) rfl (by kernel_rfl) (by kernel_rfl) (by kernel_rfl) (fun _ _ _ h => h) (Or.inl ⟨by rfl, by intro w; go_simp⟩) ?_
 refine wpAny_take (i := 6) (v := .int .i64 i) rfl (by kernel_rfl) (by kernel_rfl) (by kernel_rfl) (fun _ _ _ h => h) (Or.inl ⟨by rfl, by intro w; go_simp⟩) ?_
 refine wpAny_take (i := 7) (v := .slice (some ⟨g, i * 2, none⟩) (n - i) (c - i)) rfl (by kernel_rfl) (by kernel_rfl) (by kernel_rfl) (fun _ _ _ h => h) (Or.inl ⟨by rfl, by intro w; go_simp; (intros; exfalso; omega)⟩) ?_
 generalize hwd : (World.mk w2.heap w2.tape (w2.drawn + 1) w2.os w2.output) = wd
 have hgD : wd.heap[w.heap.size]? = some (.cells Y.toArray 107 (0, 0)) := by rw [← hwd, HY.out]; exact hg2.out
 have hbD : Below w0.heap.size w0 wd := by rw [← hwd]; exact hb2.drew
 have hsE := hsD wd (by rw [← hwd]; exact (ho2 g hN').trans (hO g hgw))
 clear hwd hg2 hb2 ho2 hsD
 refine wpAny_ready (rs := [8]) (by kernel_rfl) (by decide) ?_
 refine AllReady.cons rfl (fun K hK => ?_) AllReady.nil
 refine step_copy_sz rfl _ _ _ _ rfl 107 i0 2 Tryz.underlying26 hi0 hz1 w.heap.size ((i + 1) * 2) (n - i) (G - (i + 1)) ⟨g, i * 2, none⟩ (n - i) (c - i) (by kernel_rfl) (by kernel_rfl) Y 107 hgD X2 (n - i) (by simp) hcl hsE (by rw [hcl, hYl]; omega) h1x w0.heap.size w0 hbD hgN ?_
 intro w3 hg3 hb3 ho3
 refine hK _ _ ?_
 refine ⟨by kernel_rfl, ?_⟩
 go_wp2_with fail
 go_ret
 have hlen : (splice Y ((i + 1) * 2) X2).length = G * 2 := by rw [length_splice _ _ _ (by rw [hcl, hYl]; omega), hYl]
 exact ⟨_, rfl, ⟨by rw [List.length_take, hlen]; omega, .inr ⟨w.heap.size, G, _, rfl, hgN, hg3.out, hG1, hG2, by simpa using hlen, by simp⟩⟩, hb3⟩

theorem Wt.insert_any (v : Value) (l : List Wt) (i : Nat) (x : Wt) (vb : Nat) (w w0 : World) (hb0 : Below w0.heap.size w0 w)
  (hown : w.ownsRow w0.heap.size 107 2 v l.length (l.flatMap Wt.cells)) (hi : i ≤ l.length) (hlen : l.length ≤ 1048576)
  (hx : w.heap[vb]? = some (.cells #[.int .i64 x.irq, .int .i64 x.prio] 107 (0, 0))) (hne : v.ownBlock ≠ some vb) :
  Calls Tryz.prog 148 #[v, .int .i64 i, .slice (some ⟨vb, 0, none⟩) 1 1] w fun e w' => ∃ v', e = .returned v' ∧ w'.ownsRow w0.heap.size 107 2 v' (l.length + 1) ((l.take i ++ x :: l.drop i).flatMap Wt.cells) ∧ Below w0.heap.size w0 w' := by
 by_cases hil : i = l.length
 ·subst hil
  rw [List.take_length, List.drop_length]
  exact Wt.insert_end v l x vb w w0 hb0 hown hlen hx
 ·have hfl : (l.take i ++ x :: l.drop i).flatMap Wt.cells = (l.flatMap Wt.cells).take (i * 2) ++ Wt.cells x ++ (l.flatMap Wt.cells).drop (i * 2) := by
   rw [List.flatMap_append, List.flatMap_cons, flat_take Wt.cells_len, flat_drop Wt.cells_len, List.append_assoc]
  rw [hfl]
  rcases hown.2 with ⟨_, h0⟩ | ⟨g, c, cur, rfl, hg, hh, hnc, hm, hsz, ht⟩
  ·omega
  ·have hng : vb ≠ g := fun h => hne (by simp [Value.ownBlock, h])
   by_cases hr : l.length + 1 ≤ c
   ·exact (Wt.insert_room g c i l.length cur _ l x vb w w0 hb0 hg hh (by omega) hr hm hsz ht hown.1 rfl hx hng).mono fun e w' h => ⟨_, h.1, h.2⟩
   ·exact Wt.insert_grow g c i l.length cur _ l x vb w w0 hb0 hh (by omega) hnc (by omega) hlen ht hown.1 rfl hx

end Go.Proofs.YtndfmkbpdoohfaaGreat

/- The type 'Queue' of the law text and of the program: what the law text's own helpers do with it. No condition. -/
namespace Go.Proofs.YtndfmkbpdoohfaaGreat
open Go.RowKit Go.ChangeShapes Go.WideShapes Go.Deep

def Qc (x : Value × Value) : List Value := [x.1, x.2]
theorem Qc.box {w : World} {g lo hi : Nat} {a b : Value} (h : Rd Qc 2 w lo hi (.slice (some ⟨g, 0, none⟩) 1 1) [(a, b)]) : w.cell? ⟨g, 0, none⟩ = some a ∧ w.cell? ⟨g, 1, none⟩ = some b := by
 obtain ⟨A, c, hv, _, _, h⟩ := h
 injection hv with e1 e2 e3
 subst e1
 obtain ⟨g', off, hA, _, _, h⟩ := h (by simp)
 injection hA with hA
 injection hA with e4 e5
 subst e4; subst e5
 exact ⟨by simpa using h 0 (a, b) rfl 0 _ rfl, by simpa using h 0 (a, b) rfl 1 _ rfl⟩

theorem froz_new (w : World) (cs : Array Value) (E : TypeId) {g : Nat} (hg : g = w.heap.size) (j : Nat) : (w.alloc (.cells cs E)).frozen? ⟨g, j, none⟩ = false := by
 subst hg
 exact frozen_of_row _ _ j cs E (heap_alloc_new w _)
end Go.Proofs.YtndfmkbpdoohfaaGreat

/- A queue in new memory, in the program and in the reference. Condition: at most 1048576 slots and waiting interrupts each. -/
namespace Go.Proofs.YtndfmkbpdoohfaaGreat
open Go.RowKit Go.ChangeShapes Go.WideShapes Go.Deep

/-- a row is kept when a row of another element type grows -/
theorem own_kept_type {w w' : World} {base base2 sz sz2 n n2 : Nat} {E E2 : TypeId} {v v2 : Value} {xs xs2 : List Value} (h : w.ownsRow base E sz v n xs) (h2 : w.ownsRow base2 E2 sz2 v2 n2 xs2) (hg : w.grownBy w' v2.ownBlock) (hE : E ≠ E2) : w'.ownsRow base E sz v n xs := by
 refine h.kept hg ?_
 rcases h.2 with ⟨rfl, _⟩ | ⟨g, cap, cur, rfl, _, hh, _⟩
 ·left; simp [Value.ownBlock]
 ·rcases h2.2 with ⟨rfl, _⟩ | ⟨g2, cap2, cur2, rfl, _, hh2, _⟩
  ·right; simp [Value.ownBlock]
  ·right
   simp only [Value.ownBlock, ne_eq, Option.some.injEq]
   intro e
   subst e
   rw [hh] at hh2
   injection hh2 with hh2
   injection hh2 with _ h4
   exact hE h4
theorem held_gen {P : Program} {md : Region.Mode} {ops : Array Oper} {Q : Exit → Act → World → Prop} {S : World → Prop} {fuel : Nat} {listed : Array Bool} {a : Act} {W : World} {F : World → Prop} (hF : F W) (h : ∀ W, F W → wpAnyH P md ops Q S fuel listed a W) : wpAnyH P md ops Q S fuel listed a W := h W hF

set_option maxHeartbeats 8000000 in
theorem specOwn_any (vs vw : Value) (ls : List Sl) (lw : List Wt) (w : World) {lo hi lo2 hi2 : Nat} (h : Rd Sl.cells 3 w lo hi vs ls) (h2 : Rd Wt.cells 2 w lo2 hi2 vw lw) (hh : hi ≤ w.heap.size) (hh2 : hi2 ≤ w.heap.size) (hl : ls.length ≤ 1048576) (hl2 : lw.length ≤ 1048576) :
  Calls Tryz.prog 92 #[.agg #[vs, vw]] w fun e w' => ∃ v1 v2, e = .returned (.agg #[v1, v2]) ∧ Ow Sl.cells 3 93 w' w.heap.size w'.heap.size v1 ls ∧ Ow Wt.cells 2 107 w' w.heap.size w'.heap.size v2 lw ∧ Below w.heap.size w w' := by
 have b0 : Below w.heap.size w ((w.alloc (.cells #[vs, vw] 28)).alloc (.cells #[.slice none 0 0, .slice none 0 0] 28)) := ((Below.refl w.heap.size w).alloc (Nat.le_refl _) _).alloc (by simp) _
 have z0 : ((w.alloc (.cells #[vs, vw] 28)).alloc (.cells #[.slice none 0 0, .slice none 0 0] 28)).heap.size = w.heap.size + 2 := by simp
 have q0 : ((w.alloc (.cells #[vs, vw] 28)).alloc (.cells #[.slice none 0 0, .slice none 0 0] 28)).cell? ⟨w.heap.size, 0, none⟩ = some vs := by simp
 have q1 : ((w.alloc (.cells #[vs, vw] 28)).alloc (.cells #[.slice none 0 0, .slice none 0 0] 28)).cell? ⟨w.heap.size, 1, none⟩ = some vw := by simp
 have r0 : ((w.alloc (.cells #[vs, vw] 28)).alloc (.cells #[.slice none 0 0, .slice none 0 0] 28)).cell? ⟨w.heap.size + 1, 0, none⟩ = some (.slice none 0 0) := by simp
 have r1 : ((w.alloc (.cells #[vs, vw] 28)).alloc (.cells #[.slice none 0 0, .slice none 0 0] 28)).cell? ⟨w.heap.size + 1, 1, none⟩ = some (.slice none 0 0) := by simp
 have rz : ∀ j, ((w.alloc (.cells #[vs, vw] 28)).alloc (.cells #[.slice none 0 0, .slice none 0 0] 28)).frozen? ⟨w.heap.size + 1, j, none⟩ = false := fun j => froz_new _ _ _ (by simp) j
 have hs := h.below b0 hh
 have hw := h2.below b0 hh2
 have hv := h.form
 have hv2 := h2.form
 clear h h2
 obtain ⟨A0, n0, d0, rfl, H0, hd0, hm0⟩ := hv
 obtain ⟨A, n, c, rfl, H, hc, hm⟩ := hv2
 rw [← H0.out] at hl
 rw [← H.out] at hl2
 go_enter Tryz.func92, Tryz.ntmps92
 go_wp2_with fail
 generalize (w.alloc _).alloc _ = w0 at *
 have hh0 : hi ≤ w0.heap.size := by omega
 have hh1 : hi2 ≤ w0.heap.size := by omega
 have zr : w.heap.size + 1 < w0.heap.size := by omega
 have zq : w.heap.size < w0.heap.size := by omega
 obtain ⟨is, his, hzs0, hzs1, hzs2⟩ := info_parts Sl.info
 obtain ⟨iq, hiq, hzq0, hzq1, hzq2⟩ := info_parts Wt.info
 have SH : ∀ W, Below w0.heap.size w0 W → (fun (W : World) => W.cell? ⟨w.heap.size, 0, none⟩ = some (.slice A0 n0 d0) ∧ W.cell? ⟨w.heap.size, 1, none⟩ = some (.slice A n c)) W := fun W hb => ⟨(hb.cell (p := ⟨w.heap.size, 0, none⟩) zq).trans q0, (hb.cell (p := ⟨w.heap.size, 1, none⟩) zq).trans q1⟩
 refine wp_region_held_drew (S := fun W => W.cell? ⟨w.heap.size, 0, none⟩ = some (.slice A0 n0 d0) ∧ W.cell? ⟨w.heap.size, 1, none⟩ = some (.slice A n c)) (by kernel_rfl) (SH _ (Below.refl w0.heap.size w0).drew) (fun hHeld => ?_)
 refine wpAnyH_take (i := 1) (v := .pointer (some ⟨w.heap.size, 0, none⟩)) rfl (by kernel_rfl) (by kernel_rfl) (by kernel_rfl) (fun _ _ _ h => h) (Or.inl ⟨by rfl, by intro w _; go_simp⟩) hHeld ?_
 refine wpAnyH_take (i := 2) (v := .slice A0 n0 d0) rfl (by kernel_rfl) (by kernel_rfl) (by kernel_rfl) (fun _ _ _ h => h) (Or.inl ⟨by rfl, by intro w hSw; obtain ⟨y0, y1⟩ := hSw; go_simp⟩) hHeld ?_
 refine wpAnyH_take (i := 5) (v := .pointer (some ⟨w.heap.size, 1, none⟩)) rfl (by kernel_rfl) (by kernel_rfl) (by kernel_rfl) (fun _ _ _ h => h) (Or.inl ⟨by rfl, by intro w _; go_simp⟩) hHeld ?_
 refine wpAnyH_take (i := 6) (v := .slice A n c) rfl (by kernel_rfl) (by kernel_rfl) (by kernel_rfl) (fun _ _ _ h => h) (Or.inl ⟨by rfl, by intro w hSw; obtain ⟨y0, y1⟩ := hSw; go_simp⟩) hHeld ?_
 clear hHeld
 refine held_gen (F := fun W' => Below w0.heap.size w0 W') (Below.refl w0.heap.size w0).drew ?_
 rintro W0 b0'
 refine wpAnyH_ready (rs := [0, 4]) (by kernel_rfl) (by decide) ?_
 refine AllReadyH.cons rfl (fun K0 hK0 => ?_) (AllReadyH.cons rfl (fun K0 hK0 => ?_) AllReadyH.nil)
 ·go_simp
  refine hK0.out _ _ (SH _ (b0'.alloc b0'.size (.cells #[] 93))) (fun _ => ?_)
  refine held_gen (F := fun W' => W'.ownsRow w0.heap.size 93 3 (.slice (some ⟨W0.heap.size, 0, none⟩) 0 0) 0 [] ∧ Below w0.heap.size w0 W') ⟨own_empty W0 (base := w0.heap.size) 93 3 b0'.size, b0'.alloc b0'.size (.cells #[] 93)⟩ ?_
  rintro W1 ⟨hS1, b1⟩
  refine wpAnyH_ready (rs := [3, 4]) (by kernel_rfl) (by decide) ?_
  refine AllReadyH.cons rfl (fun K1 hK1 => ?_) (AllReadyH.cons rfl (fun K1 hK1 => ?_) AllReadyH.nil)
  ·refine step_app_rd rfl _ _ 25 rfl w0.heap.size 93 is _ 3 _ Tryz.underlying25 his hzs0 hzs1 hzs2 rfl (by omega) Sl.cells_len Sl.one (.slice (some ⟨W0.heap.size, 0, none⟩) 0 0) 0 [] rfl hS1 (A := A0) (m := n0) (c := d0) (l := ls) rfl (hs.below b1 hh0) (by unfold maxLen; omega) (by omega) b1.size ?_
   intro v2 W2 hS2 g2
   have b2 : Below w0.heap.size w0 W2 := b1.grown g2 b1.size (own_ge hS1)
   refine hK1.out _ _ (SH _ b2) (fun _ => ?_)
   refine wpAnyH_ready (rs := [4]) (by kernel_rfl) (by decide) ?_
   refine AllReadyH.cons rfl (fun K2 hK2 => ?_) AllReadyH.nil
   ·go_simp
    refine hK2.out _ _ (SH _ (b2.alloc b2.size (.cells #[] 107))) (fun _ => ?_)
    refine held_gen (F := fun W' => W'.ownsRow w0.heap.size 107 2 (.slice (some ⟨W2.heap.size, 0, none⟩) 0 0) 0 [] ∧ Below w0.heap.size w0 W' ∧ W'.ownsRow w0.heap.size 93 3 v2 (0 + n0) ([] ++ ls.flatMap Sl.cells)) ⟨own_empty W2 (base := w0.heap.size) 107 2 b2.size, b2.alloc b2.size (.cells #[] 107), hS2.alloc (.cells #[] 107)⟩ ?_
    rintro W3 ⟨hQ3, b3, hS3⟩
    refine wpAnyH_ready (rs := [7]) (by kernel_rfl) (by decide) ?_
    refine AllReadyH.cons rfl (fun K3 hK3 => ?_) AllReadyH.nil
    ·refine step_app_rd rfl _ _ 26 rfl w0.heap.size 107 iq _ 2 _ Tryz.underlying26 hiq hzq0 hzq1 hzq2 rfl (by omega) Wt.cells_len Wt.one (.slice (some ⟨W2.heap.size, 0, none⟩) 0 0) 0 [] rfl hQ3 (A := A) (m := n) (c := c) (l := lw) rfl (hw.below b3 hh1) (by unfold maxLen; omega) (by omega) b3.size ?_
     intro v4 W4 hQ4 g4
     have b4 : Below w0.heap.size w0 W4 := b3.grown g4 b3.size (own_ge hQ3)
     refine hK3.out _ _ (SH _ b4) (fun _ => ?_)
     have hS4 := own_kept_type hS3 hQ3 g4 (by decide)
     have oS := Ow.of_own Sl.cells_len hS4 (l := ls) (by simp) (by have := H0.out; omega)
     have oQ := Ow.of_own Wt.cells_len hQ4 (l := lw) (by simp) (by have := H.out; omega)
     obtain ⟨A5, n5, d5, rfl, _, _, _⟩ := oS.rd.form
     obtain ⟨A6, n6, d6, rfl, _, _, _⟩ := oQ.rd.form
     clear hS4 hQ4
     obtain ⟨hc_, hf_⟩ := bcell b4
     have p0 := (hc_ _ 0 zr).trans r0
     have p1 := (hc_ _ 1 zr).trans r1
     have pz := fun j => (hf_ _ j zr).trans (rz j)
     have x0 := (hc_ _ 0 zq).trans q0
     have x1 := (hc_ _ 1 zq).trans q1
     clear hc_ hf_
     refine wpAnyH_ready (rs := [8]) (by kernel_rfl) (by decide) ?_
     refine AllReadyH.cons rfl (fun K8 hK8 => ?_) AllReadyH.nil
     go_simp
     refine hK8.out _ _ ⟨x0, x1⟩ (fun _ => ?_)
     refine wpAnyH_ready (rs := [9]) (by kernel_rfl) (by decide) ?_
     refine AllReadyH.cons rfl (fun K9 hK9 => ?_) AllReadyH.nil
     go_simp
     refine hK9.out _ _ ⟨by simp [go_sem, x0], by simp [go_sem, x1]⟩ (fun _ => ?_)
     refine ⟨by kernel_rfl, ?_⟩
     go_wp2_with fail
     generalize hwz : World.setCell (World.setCell _ _ _) _ _ = wz
     have u0 : wz.cell? ⟨w.heap.size + 1, 0, none⟩ = some (.slice A5 n5 d5) := by rw [← hwz]; simp [go_sem, p0]
     have u1 : wz.cell? ⟨w.heap.size + 1, 1, none⟩ = some (.slice A6 n6 d6) := by rw [← hwz]; simp [go_sem, p1]
     obtain rfl : wz = setL W4 (w.heap.size + 1) 0 [.slice A5 n5 d5, .slice A6 n6 d6] := hwz.symm
     have hbz := setL_below (b0.trans (b4.mono (by omega))) [.slice A5 n5 d5, .slice A6 n6 d6] (w.heap.size + 1) 0 (by omega)
     have kk : ∀ q, w0.heap.size ≤ q → (setL W4 (w.heap.size + 1) 0 [.slice A5 n5 d5, .slice A6 n6 d6]).heap[q]? = W4.heap[q]? := fun q hq => setL_other _ _ _ _ q (by omega)
     have o5 := oS.keep (w' := setL W4 (w.heap.size + 1) 0 [.slice A5 n5 d5, .slice A6 n6 d6]) (fun q hq _ _ => kk q hq)
     have o6 := oQ.keep (w' := setL W4 (w.heap.size + 1) 0 [.slice A5 n5 d5, .slice A6 n6 d6]) (fun q hq _ _ => kk q hq)
     have sz : (setL W4 (w.heap.size + 1) 0 [.slice A5 n5 d5, .slice A6 n6 d6]).heap.size = W4.heap.size := setL_size _ _ _ _
     clear hwz kk
     generalize setL W4 (w.heap.size + 1) 0 [.slice A5 n5 d5, .slice A6 n6 d6] = wz at *
     refine bodyPost_ret (by simp only [results, Tryz.results92]; simp [go_sem, u0, u1]; rfl) rfl ?_
     exact ⟨_, _, rfl, o5.mono (by omega) (by omega), o6.mono (by omega) (by omega), hbz⟩
  ·go_simp
   refine hK1.out _ _ (SH _ (b1.alloc b1.size (.cells #[] 107))) (fun _ => ?_)
   refine held_gen (F := fun W' => W'.ownsRow w0.heap.size 107 2 (.slice (some ⟨W1.heap.size, 0, none⟩) 0 0) 0 [] ∧ Below w0.heap.size w0 W' ∧ W'.ownsRow w0.heap.size 93 3 (.slice (some ⟨W0.heap.size, 0, none⟩) 0 0) (0) []) ⟨own_empty W1 (base := w0.heap.size) 107 2 b1.size, b1.alloc b1.size (.cells #[] 107), hS1.alloc (.cells #[] 107)⟩ ?_
   rintro W2 ⟨hQ2, b2, hS2⟩
   refine wpAnyH_ready (rs := [3]) (by kernel_rfl) (by decide) ?_
   refine AllReadyH.cons rfl (fun K2 hK2 => ?_) AllReadyH.nil
   ·refine step_app_rd rfl _ _ 25 rfl w0.heap.size 93 is _ 3 _ Tryz.underlying25 his hzs0 hzs1 hzs2 rfl (by omega) Sl.cells_len Sl.one (.slice (some ⟨W0.heap.size, 0, none⟩) 0 0) 0 [] rfl hS2 (A := A0) (m := n0) (c := d0) (l := ls) rfl (hs.below b2 hh0) (by unfold maxLen; omega) (by omega) b2.size ?_
    intro v3 W3 hS3 g3
    have b3 : Below w0.heap.size w0 W3 := b2.grown g3 b2.size (own_ge hS2)
    refine hK2.out _ _ (SH _ b3) (fun _ => ?_)
    have hQ3 := own_kept_type hQ2 hS2 g3 (by decide)
    refine wpAnyH_ready (rs := [7]) (by kernel_rfl) (by decide) ?_
    refine AllReadyH.cons rfl (fun K3 hK3 => ?_) AllReadyH.nil
    ·refine step_app_rd rfl _ _ 26 rfl w0.heap.size 107 iq _ 2 _ Tryz.underlying26 hiq hzq0 hzq1 hzq2 rfl (by omega) Wt.cells_len Wt.one (.slice (some ⟨W1.heap.size, 0, none⟩) 0 0) 0 [] rfl hQ3 (A := A) (m := n) (c := c) (l := lw) rfl (hw.below b3 hh1) (by unfold maxLen; omega) (by omega) b3.size ?_
     intro v4 W4 hQ4 g4
     have b4 : Below w0.heap.size w0 W4 := b3.grown g4 b3.size (own_ge hQ3)
     refine hK3.out _ _ (SH _ b4) (fun _ => ?_)
     have hS4 := own_kept_type hS3 hQ3 g4 (by decide)
     have oS := Ow.of_own Sl.cells_len hS4 (l := ls) (by simp) (by have := H0.out; omega)
     have oQ := Ow.of_own Wt.cells_len hQ4 (l := lw) (by simp) (by have := H.out; omega)
     obtain ⟨A5, n5, d5, rfl, _, _, _⟩ := oS.rd.form
     obtain ⟨A6, n6, d6, rfl, _, _, _⟩ := oQ.rd.form
     clear hS4 hQ4
     obtain ⟨hc_, hf_⟩ := bcell b4
     have p0 := (hc_ _ 0 zr).trans r0
     have p1 := (hc_ _ 1 zr).trans r1
     have pz := fun j => (hf_ _ j zr).trans (rz j)
     have x0 := (hc_ _ 0 zq).trans q0
     have x1 := (hc_ _ 1 zq).trans q1
     clear hc_ hf_
     refine wpAnyH_ready (rs := [8]) (by kernel_rfl) (by decide) ?_
     refine AllReadyH.cons rfl (fun K8 hK8 => ?_) AllReadyH.nil
     go_simp
     refine hK8.out _ _ ⟨x0, x1⟩ (fun _ => ?_)
     refine wpAnyH_ready (rs := [9]) (by kernel_rfl) (by decide) ?_
     refine AllReadyH.cons rfl (fun K9 hK9 => ?_) AllReadyH.nil
     go_simp
     refine hK9.out _ _ ⟨by simp [go_sem, x0], by simp [go_sem, x1]⟩ (fun _ => ?_)
     refine ⟨by kernel_rfl, ?_⟩
     go_wp2_with fail
     generalize hwz : World.setCell (World.setCell _ _ _) _ _ = wz
     have u0 : wz.cell? ⟨w.heap.size + 1, 0, none⟩ = some (.slice A5 n5 d5) := by rw [← hwz]; simp [go_sem, p0]
     have u1 : wz.cell? ⟨w.heap.size + 1, 1, none⟩ = some (.slice A6 n6 d6) := by rw [← hwz]; simp [go_sem, p1]
     obtain rfl : wz = setL W4 (w.heap.size + 1) 0 [.slice A5 n5 d5, .slice A6 n6 d6] := hwz.symm
     have hbz := setL_below (b0.trans (b4.mono (by omega))) [.slice A5 n5 d5, .slice A6 n6 d6] (w.heap.size + 1) 0 (by omega)
     have kk : ∀ q, w0.heap.size ≤ q → (setL W4 (w.heap.size + 1) 0 [.slice A5 n5 d5, .slice A6 n6 d6]).heap[q]? = W4.heap[q]? := fun q hq => setL_other _ _ _ _ q (by omega)
     have o5 := oS.keep (w' := setL W4 (w.heap.size + 1) 0 [.slice A5 n5 d5, .slice A6 n6 d6]) (fun q hq _ _ => kk q hq)
     have o6 := oQ.keep (w' := setL W4 (w.heap.size + 1) 0 [.slice A5 n5 d5, .slice A6 n6 d6]) (fun q hq _ _ => kk q hq)
     have sz : (setL W4 (w.heap.size + 1) 0 [.slice A5 n5 d5, .slice A6 n6 d6]).heap.size = W4.heap.size := setL_size _ _ _ _
     clear hwz kk
     generalize setL W4 (w.heap.size + 1) 0 [.slice A5 n5 d5, .slice A6 n6 d6] = wz at *
     refine bodyPost_ret (by simp only [results, Tryz.results92]; simp [go_sem, u0, u1]; rfl) rfl ?_
     exact ⟨_, _, rfl, o5.mono (by omega) (by omega), o6.mono (by omega) (by omega), hbz⟩
 ·go_simp
  refine hK0.out _ _ (SH _ (b0'.alloc b0'.size (.cells #[] 107))) (fun _ => ?_)
  refine held_gen (F := fun W' => W'.ownsRow w0.heap.size 107 2 (.slice (some ⟨W0.heap.size, 0, none⟩) 0 0) 0 [] ∧ Below w0.heap.size w0 W') ⟨own_empty W0 (base := w0.heap.size) 107 2 b0'.size, b0'.alloc b0'.size (.cells #[] 107)⟩ ?_
  rintro W1 ⟨hQ1, b1⟩
  refine wpAnyH_ready (rs := [0]) (by kernel_rfl) (by decide) ?_
  refine AllReadyH.cons rfl (fun K1 hK1 => ?_) AllReadyH.nil
  ·go_simp
   refine hK1.out _ _ (SH _ (b1.alloc b1.size (.cells #[] 93))) (fun _ => ?_)
   refine held_gen (F := fun W' => W'.ownsRow w0.heap.size 93 3 (.slice (some ⟨W1.heap.size, 0, none⟩) 0 0) 0 [] ∧ Below w0.heap.size w0 W' ∧ W'.ownsRow w0.heap.size 107 2 (.slice (some ⟨W0.heap.size, 0, none⟩) 0 0) (0) []) ⟨own_empty W1 (base := w0.heap.size) 93 3 b1.size, b1.alloc b1.size (.cells #[] 93), hQ1.alloc (.cells #[] 93)⟩ ?_
   rintro W2 ⟨hS2, b2, hQ2⟩
   refine wpAnyH_ready (rs := [3]) (by kernel_rfl) (by decide) ?_
   refine AllReadyH.cons rfl (fun K2 hK2 => ?_) AllReadyH.nil
   ·refine step_app_rd rfl _ _ 25 rfl w0.heap.size 93 is _ 3 _ Tryz.underlying25 his hzs0 hzs1 hzs2 rfl (by omega) Sl.cells_len Sl.one (.slice (some ⟨W1.heap.size, 0, none⟩) 0 0) 0 [] rfl hS2 (A := A0) (m := n0) (c := d0) (l := ls) rfl (hs.below b2 hh0) (by unfold maxLen; omega) (by omega) b2.size ?_
    intro v3 W3 hS3 g3
    have b3 : Below w0.heap.size w0 W3 := b2.grown g3 b2.size (own_ge hS2)
    refine hK2.out _ _ (SH _ b3) (fun _ => ?_)
    have hQ3 := own_kept_type hQ2 hS2 g3 (by decide)
    refine wpAnyH_ready (rs := [7]) (by kernel_rfl) (by decide) ?_
    refine AllReadyH.cons rfl (fun K3 hK3 => ?_) AllReadyH.nil
    ·refine step_app_rd rfl _ _ 26 rfl w0.heap.size 107 iq _ 2 _ Tryz.underlying26 hiq hzq0 hzq1 hzq2 rfl (by omega) Wt.cells_len Wt.one (.slice (some ⟨W0.heap.size, 0, none⟩) 0 0) 0 [] rfl hQ3 (A := A) (m := n) (c := c) (l := lw) rfl (hw.below b3 hh1) (by unfold maxLen; omega) (by omega) b3.size ?_
     intro v4 W4 hQ4 g4
     have b4 : Below w0.heap.size w0 W4 := b3.grown g4 b3.size (own_ge hQ3)
     refine hK3.out _ _ (SH _ b4) (fun _ => ?_)
     have hS4 := own_kept_type hS3 hQ3 g4 (by decide)
     have oS := Ow.of_own Sl.cells_len hS4 (l := ls) (by simp) (by have := H0.out; omega)
     have oQ := Ow.of_own Wt.cells_len hQ4 (l := lw) (by simp) (by have := H.out; omega)
     obtain ⟨A5, n5, d5, rfl, _, _, _⟩ := oS.rd.form
     obtain ⟨A6, n6, d6, rfl, _, _, _⟩ := oQ.rd.form
     clear hS4 hQ4
     obtain ⟨hc_, hf_⟩ := bcell b4
     have p0 := (hc_ _ 0 zr).trans r0
     have p1 := (hc_ _ 1 zr).trans r1
     have pz := fun j => (hf_ _ j zr).trans (rz j)
     have x0 := (hc_ _ 0 zq).trans q0
     have x1 := (hc_ _ 1 zq).trans q1
     clear hc_ hf_
     refine wpAnyH_ready (rs := [8]) (by kernel_rfl) (by decide) ?_
     refine AllReadyH.cons rfl (fun K8 hK8 => ?_) AllReadyH.nil
     go_simp
     refine hK8.out _ _ ⟨x0, x1⟩ (fun _ => ?_)
     refine wpAnyH_ready (rs := [9]) (by kernel_rfl) (by decide) ?_
     refine AllReadyH.cons rfl (fun K9 hK9 => ?_) AllReadyH.nil
     go_simp
     refine hK9.out _ _ ⟨by simp [go_sem, x0], by simp [go_sem, x1]⟩ (fun _ => ?_)
     refine ⟨by kernel_rfl, ?_⟩
     go_wp2_with fail
     generalize hwz : World.setCell (World.setCell _ _ _) _ _ = wz
     have u0 : wz.cell? ⟨w.heap.size + 1, 0, none⟩ = some (.slice A5 n5 d5) := by rw [← hwz]; simp [go_sem, p0]
     have u1 : wz.cell? ⟨w.heap.size + 1, 1, none⟩ = some (.slice A6 n6 d6) := by rw [← hwz]; simp [go_sem, p1]
     obtain rfl : wz = setL W4 (w.heap.size + 1) 0 [.slice A5 n5 d5, .slice A6 n6 d6] := hwz.symm
     have hbz := setL_below (b0.trans (b4.mono (by omega))) [.slice A5 n5 d5, .slice A6 n6 d6] (w.heap.size + 1) 0 (by omega)
     have kk : ∀ q, w0.heap.size ≤ q → (setL W4 (w.heap.size + 1) 0 [.slice A5 n5 d5, .slice A6 n6 d6]).heap[q]? = W4.heap[q]? := fun q hq => setL_other _ _ _ _ q (by omega)
     have o5 := oS.keep (w' := setL W4 (w.heap.size + 1) 0 [.slice A5 n5 d5, .slice A6 n6 d6]) (fun q hq _ _ => kk q hq)
     have o6 := oQ.keep (w' := setL W4 (w.heap.size + 1) 0 [.slice A5 n5 d5, .slice A6 n6 d6]) (fun q hq _ _ => kk q hq)
     have sz : (setL W4 (w.heap.size + 1) 0 [.slice A5 n5 d5, .slice A6 n6 d6]).heap.size = W4.heap.size := setL_size _ _ _ _
     clear hwz kk
     generalize setL W4 (w.heap.size + 1) 0 [.slice A5 n5 d5, .slice A6 n6 d6] = wz at *
     refine bodyPost_ret (by simp only [results, Tryz.results92]; simp [go_sem, u0, u1]; rfl) rfl ?_
     exact ⟨_, _, rfl, o5.mono (by omega) (by omega), o6.mono (by omega) (by omega), hbz⟩
set_option maxHeartbeats 8000000 in
theorem implOwn_any (vs vw : Value) (ls : List Sl) (lw : List Wt) (w : World) {lo hi lo2 hi2 : Nat} (h : Rd Sl.cells 3 w lo hi vs ls) (h2 : Rd Wt.cells 2 w lo2 hi2 vw lw) (hh : hi ≤ w.heap.size) (hh2 : hi2 ≤ w.heap.size) (hl : ls.length ≤ 1048576) (hl2 : lw.length ≤ 1048576) :
  Calls Tryz.prog 95 #[.agg #[vs, vw]] w fun e w' => ∃ v1 v2, e = .returned (.agg #[v1, v2]) ∧ Ow Sl.cells 3 93 w' w.heap.size w'.heap.size v1 ls ∧ Ow Wt.cells 2 107 w' w.heap.size w'.heap.size v2 lw ∧ Below w.heap.size w w' := by
 have b0 : Below w.heap.size w ((w.alloc (.cells #[vs, vw] 28)).alloc (.cells #[.slice none 0 0, .slice none 0 0] 28)) := ((Below.refl w.heap.size w).alloc (Nat.le_refl _) _).alloc (by simp) _
 have z0 : ((w.alloc (.cells #[vs, vw] 28)).alloc (.cells #[.slice none 0 0, .slice none 0 0] 28)).heap.size = w.heap.size + 2 := by simp
 have q0 : ((w.alloc (.cells #[vs, vw] 28)).alloc (.cells #[.slice none 0 0, .slice none 0 0] 28)).cell? ⟨w.heap.size, 0, none⟩ = some vs := by simp
 have q1 : ((w.alloc (.cells #[vs, vw] 28)).alloc (.cells #[.slice none 0 0, .slice none 0 0] 28)).cell? ⟨w.heap.size, 1, none⟩ = some vw := by simp
 have r0 : ((w.alloc (.cells #[vs, vw] 28)).alloc (.cells #[.slice none 0 0, .slice none 0 0] 28)).cell? ⟨w.heap.size + 1, 0, none⟩ = some (.slice none 0 0) := by simp
 have r1 : ((w.alloc (.cells #[vs, vw] 28)).alloc (.cells #[.slice none 0 0, .slice none 0 0] 28)).cell? ⟨w.heap.size + 1, 1, none⟩ = some (.slice none 0 0) := by simp
 have rz : ∀ j, ((w.alloc (.cells #[vs, vw] 28)).alloc (.cells #[.slice none 0 0, .slice none 0 0] 28)).frozen? ⟨w.heap.size + 1, j, none⟩ = false := fun j => froz_new _ _ _ (by simp) j
 have hs := h.below b0 hh
 have hw := h2.below b0 hh2
 have hv := h.form
 have hv2 := h2.form
 clear h h2
 obtain ⟨A0, n0, d0, rfl, H0, hd0, hm0⟩ := hv
 obtain ⟨A, n, c, rfl, H, hc, hm⟩ := hv2
 rw [← H0.out] at hl
 rw [← H.out] at hl2
 go_enter Tryz.func95, Tryz.ntmps95
 go_wp2_with fail
 generalize (w.alloc _).alloc _ = w0 at *
 have hh0 : hi ≤ w0.heap.size := by omega
 have hh1 : hi2 ≤ w0.heap.size := by omega
 have zr : w.heap.size + 1 < w0.heap.size := by omega
 have zq : w.heap.size < w0.heap.size := by omega
 obtain ⟨is, his, hzs0, hzs1, hzs2⟩ := info_parts Sl.info
 obtain ⟨iq, hiq, hzq0, hzq1, hzq2⟩ := info_parts Wt.info
 have SH : ∀ W, Below w0.heap.size w0 W → (fun (W : World) => W.cell? ⟨w.heap.size, 0, none⟩ = some (.slice A0 n0 d0) ∧ W.cell? ⟨w.heap.size, 1, none⟩ = some (.slice A n c)) W := fun W hb => ⟨(hb.cell (p := ⟨w.heap.size, 0, none⟩) zq).trans q0, (hb.cell (p := ⟨w.heap.size, 1, none⟩) zq).trans q1⟩
 refine wp_region_held_drew (S := fun W => W.cell? ⟨w.heap.size, 0, none⟩ = some (.slice A0 n0 d0) ∧ W.cell? ⟨w.heap.size, 1, none⟩ = some (.slice A n c)) (by kernel_rfl) (SH _ (Below.refl w0.heap.size w0).drew) (fun hHeld => ?_)
 refine wpAnyH_take (i := 1) (v := .pointer (some ⟨w.heap.size, 0, none⟩)) rfl (by kernel_rfl) (by kernel_rfl) (by kernel_rfl) (fun _ _ _ h => h) (Or.inl ⟨by rfl, by intro w _; go_simp⟩) hHeld ?_
 refine wpAnyH_take (i := 2) (v := .slice A0 n0 d0) rfl (by kernel_rfl) (by kernel_rfl) (by kernel_rfl) (fun _ _ _ h => h) (Or.inl ⟨by rfl, by intro w hSw; obtain ⟨y0, y1⟩ := hSw; go_simp⟩) hHeld ?_
 refine wpAnyH_take (i := 5) (v := .pointer (some ⟨w.heap.size, 1, none⟩)) rfl (by kernel_rfl) (by kernel_rfl) (by kernel_rfl) (fun _ _ _ h => h) (Or.inl ⟨by rfl, by intro w _; go_simp⟩) hHeld ?_
 refine wpAnyH_take (i := 6) (v := .slice A n c) rfl (by kernel_rfl) (by kernel_rfl) (by kernel_rfl) (fun _ _ _ h => h) (Or.inl ⟨by rfl, by intro w hSw; obtain ⟨y0, y1⟩ := hSw; go_simp⟩) hHeld ?_
 clear hHeld
 refine held_gen (F := fun W' => Below w0.heap.size w0 W') (Below.refl w0.heap.size w0).drew ?_
 rintro W0 b0'
 refine wpAnyH_ready (rs := [0, 4]) (by kernel_rfl) (by decide) ?_
 refine AllReadyH.cons rfl (fun K0 hK0 => ?_) (AllReadyH.cons rfl (fun K0 hK0 => ?_) AllReadyH.nil)
 ·go_simp
  refine hK0.out _ _ (SH _ (b0'.alloc b0'.size (.cells #[] 93))) (fun _ => ?_)
  refine held_gen (F := fun W' => W'.ownsRow w0.heap.size 93 3 (.slice (some ⟨W0.heap.size, 0, none⟩) 0 0) 0 [] ∧ Below w0.heap.size w0 W') ⟨own_empty W0 (base := w0.heap.size) 93 3 b0'.size, b0'.alloc b0'.size (.cells #[] 93)⟩ ?_
  rintro W1 ⟨hS1, b1⟩
  refine wpAnyH_ready (rs := [3, 4]) (by kernel_rfl) (by decide) ?_
  refine AllReadyH.cons rfl (fun K1 hK1 => ?_) (AllReadyH.cons rfl (fun K1 hK1 => ?_) AllReadyH.nil)
  ·refine step_app_rd rfl _ _ 25 rfl w0.heap.size 93 is _ 3 _ Tryz.underlying25 his hzs0 hzs1 hzs2 rfl (by omega) Sl.cells_len Sl.one (.slice (some ⟨W0.heap.size, 0, none⟩) 0 0) 0 [] rfl hS1 (A := A0) (m := n0) (c := d0) (l := ls) rfl (hs.below b1 hh0) (by unfold maxLen; omega) (by omega) b1.size ?_
   intro v2 W2 hS2 g2
   have b2 : Below w0.heap.size w0 W2 := b1.grown g2 b1.size (own_ge hS1)
   refine hK1.out _ _ (SH _ b2) (fun _ => ?_)
   refine wpAnyH_ready (rs := [4]) (by kernel_rfl) (by decide) ?_
   refine AllReadyH.cons rfl (fun K2 hK2 => ?_) AllReadyH.nil
   ·go_simp
    refine hK2.out _ _ (SH _ (b2.alloc b2.size (.cells #[] 107))) (fun _ => ?_)
    refine held_gen (F := fun W' => W'.ownsRow w0.heap.size 107 2 (.slice (some ⟨W2.heap.size, 0, none⟩) 0 0) 0 [] ∧ Below w0.heap.size w0 W' ∧ W'.ownsRow w0.heap.size 93 3 v2 (0 + n0) ([] ++ ls.flatMap Sl.cells)) ⟨own_empty W2 (base := w0.heap.size) 107 2 b2.size, b2.alloc b2.size (.cells #[] 107), hS2.alloc (.cells #[] 107)⟩ ?_
    rintro W3 ⟨hQ3, b3, hS3⟩
    refine wpAnyH_ready (rs := [7]) (by kernel_rfl) (by decide) ?_
    refine AllReadyH.cons rfl (fun K3 hK3 => ?_) AllReadyH.nil
    ·refine step_app_rd rfl _ _ 26 rfl w0.heap.size 107 iq _ 2 _ Tryz.underlying26 hiq hzq0 hzq1 hzq2 rfl (by omega) Wt.cells_len Wt.one (.slice (some ⟨W2.heap.size, 0, none⟩) 0 0) 0 [] rfl hQ3 (A := A) (m := n) (c := c) (l := lw) rfl (hw.below b3 hh1) (by unfold maxLen; omega) (by omega) b3.size ?_
     intro v4 W4 hQ4 g4
     have b4 : Below w0.heap.size w0 W4 := b3.grown g4 b3.size (own_ge hQ3)
     refine hK3.out _ _ (SH _ b4) (fun _ => ?_)
     have hS4 := own_kept_type hS3 hQ3 g4 (by decide)
     have oS := Ow.of_own Sl.cells_len hS4 (l := ls) (by simp) (by have := H0.out; omega)
     have oQ := Ow.of_own Wt.cells_len hQ4 (l := lw) (by simp) (by have := H.out; omega)
     obtain ⟨A5, n5, d5, rfl, _, _, _⟩ := oS.rd.form
     obtain ⟨A6, n6, d6, rfl, _, _, _⟩ := oQ.rd.form
     clear hS4 hQ4
     obtain ⟨hc_, hf_⟩ := bcell b4
     have p0 := (hc_ _ 0 zr).trans r0
     have p1 := (hc_ _ 1 zr).trans r1
     have pz := fun j => (hf_ _ j zr).trans (rz j)
     have x0 := (hc_ _ 0 zq).trans q0
     have x1 := (hc_ _ 1 zq).trans q1
     clear hc_ hf_
     refine wpAnyH_ready (rs := [8]) (by kernel_rfl) (by decide) ?_
     refine AllReadyH.cons rfl (fun K8 hK8 => ?_) AllReadyH.nil
     go_simp
     refine hK8.out _ _ ⟨x0, x1⟩ (fun _ => ?_)
     refine wpAnyH_ready (rs := [9]) (by kernel_rfl) (by decide) ?_
     refine AllReadyH.cons rfl (fun K9 hK9 => ?_) AllReadyH.nil
     go_simp
     refine hK9.out _ _ ⟨by simp [go_sem, x0], by simp [go_sem, x1]⟩ (fun _ => ?_)
     refine ⟨by kernel_rfl, ?_⟩
     go_wp2_with fail
     generalize hwz : World.setCell (World.setCell _ _ _) _ _ = wz
     have u0 : wz.cell? ⟨w.heap.size + 1, 0, none⟩ = some (.slice A5 n5 d5) := by rw [← hwz]; simp [go_sem, p0]
     have u1 : wz.cell? ⟨w.heap.size + 1, 1, none⟩ = some (.slice A6 n6 d6) := by rw [← hwz]; simp [go_sem, p1]
     obtain rfl : wz = setL W4 (w.heap.size + 1) 0 [.slice A5 n5 d5, .slice A6 n6 d6] := hwz.symm
     have hbz := setL_below (b0.trans (b4.mono (by omega))) [.slice A5 n5 d5, .slice A6 n6 d6] (w.heap.size + 1) 0 (by omega)
     have kk : ∀ q, w0.heap.size ≤ q → (setL W4 (w.heap.size + 1) 0 [.slice A5 n5 d5, .slice A6 n6 d6]).heap[q]? = W4.heap[q]? := fun q hq => setL_other _ _ _ _ q (by omega)
     have o5 := oS.keep (w' := setL W4 (w.heap.size + 1) 0 [.slice A5 n5 d5, .slice A6 n6 d6]) (fun q hq _ _ => kk q hq)
     have o6 := oQ.keep (w' := setL W4 (w.heap.size + 1) 0 [.slice A5 n5 d5, .slice A6 n6 d6]) (fun q hq _ _ => kk q hq)
     have sz : (setL W4 (w.heap.size + 1) 0 [.slice A5 n5 d5, .slice A6 n6 d6]).heap.size = W4.heap.size := setL_size _ _ _ _
     clear hwz kk
     generalize setL W4 (w.heap.size + 1) 0 [.slice A5 n5 d5, .slice A6 n6 d6] = wz at *
     refine bodyPost_ret (by simp only [results, Tryz.results95]; simp [go_sem, u0, u1]; rfl) rfl ?_
     exact ⟨_, _, rfl, o5.mono (by omega) (by omega), o6.mono (by omega) (by omega), hbz⟩
  ·go_simp
   refine hK1.out _ _ (SH _ (b1.alloc b1.size (.cells #[] 107))) (fun _ => ?_)
   refine held_gen (F := fun W' => W'.ownsRow w0.heap.size 107 2 (.slice (some ⟨W1.heap.size, 0, none⟩) 0 0) 0 [] ∧ Below w0.heap.size w0 W' ∧ W'.ownsRow w0.heap.size 93 3 (.slice (some ⟨W0.heap.size, 0, none⟩) 0 0) (0) []) ⟨own_empty W1 (base := w0.heap.size) 107 2 b1.size, b1.alloc b1.size (.cells #[] 107), hS1.alloc (.cells #[] 107)⟩ ?_
   rintro W2 ⟨hQ2, b2, hS2⟩
   refine wpAnyH_ready (rs := [3]) (by kernel_rfl) (by decide) ?_
   refine AllReadyH.cons rfl (fun K2 hK2 => ?_) AllReadyH.nil
   ·refine step_app_rd rfl _ _ 25 rfl w0.heap.size 93 is _ 3 _ Tryz.underlying25 his hzs0 hzs1 hzs2 rfl (by omega) Sl.cells_len Sl.one (.slice (some ⟨W0.heap.size, 0, none⟩) 0 0) 0 [] rfl hS2 (A := A0) (m := n0) (c := d0) (l := ls) rfl (hs.below b2 hh0) (by unfold maxLen; omega) (by omega) b2.size ?_
    intro v3 W3 hS3 g3
    have b3 : Below w0.heap.size w0 W3 := b2.grown g3 b2.size (own_ge hS2)
    refine hK2.out _ _ (SH _ b3) (fun _ => ?_)
    have hQ3 := own_kept_type hQ2 hS2 g3 (by decide)
    refine wpAnyH_ready (rs := [7]) (by kernel_rfl) (by decide) ?_
    refine AllReadyH.cons rfl (fun K3 hK3 => ?_) AllReadyH.nil
    ·refine step_app_rd rfl _ _ 26 rfl w0.heap.size 107 iq _ 2 _ Tryz.underlying26 hiq hzq0 hzq1 hzq2 rfl (by omega) Wt.cells_len Wt.one (.slice (some ⟨W1.heap.size, 0, none⟩) 0 0) 0 [] rfl hQ3 (A := A) (m := n) (c := c) (l := lw) rfl (hw.below b3 hh1) (by unfold maxLen; omega) (by omega) b3.size ?_
     intro v4 W4 hQ4 g4
     have b4 : Below w0.heap.size w0 W4 := b3.grown g4 b3.size (own_ge hQ3)
     refine hK3.out _ _ (SH _ b4) (fun _ => ?_)
     have hS4 := own_kept_type hS3 hQ3 g4 (by decide)
     have oS := Ow.of_own Sl.cells_len hS4 (l := ls) (by simp) (by have := H0.out; omega)
     have oQ := Ow.of_own Wt.cells_len hQ4 (l := lw) (by simp) (by have := H.out; omega)
     obtain ⟨A5, n5, d5, rfl, _, _, _⟩ := oS.rd.form
     obtain ⟨A6, n6, d6, rfl, _, _, _⟩ := oQ.rd.form
     clear hS4 hQ4
     obtain ⟨hc_, hf_⟩ := bcell b4
     have p0 := (hc_ _ 0 zr).trans r0
     have p1 := (hc_ _ 1 zr).trans r1
     have pz := fun j => (hf_ _ j zr).trans (rz j)
     have x0 := (hc_ _ 0 zq).trans q0
     have x1 := (hc_ _ 1 zq).trans q1
     clear hc_ hf_
     refine wpAnyH_ready (rs := [8]) (by kernel_rfl) (by decide) ?_
     refine AllReadyH.cons rfl (fun K8 hK8 => ?_) AllReadyH.nil
     go_simp
     refine hK8.out _ _ ⟨x0, x1⟩ (fun _ => ?_)
     refine wpAnyH_ready (rs := [9]) (by kernel_rfl) (by decide) ?_
     refine AllReadyH.cons rfl (fun K9 hK9 => ?_) AllReadyH.nil
     go_simp
     refine hK9.out _ _ ⟨by simp [go_sem, x0], by simp [go_sem, x1]⟩ (fun _ => ?_)
     refine ⟨by kernel_rfl, ?_⟩
     go_wp2_with fail
     generalize hwz : World.setCell (World.setCell _ _ _) _ _ = wz
     have u0 : wz.cell? ⟨w.heap.size + 1, 0, none⟩ = some (.slice A5 n5 d5) := by rw [← hwz]; simp [go_sem, p0]
     have u1 : wz.cell? ⟨w.heap.size + 1, 1, none⟩ = some (.slice A6 n6 d6) := by rw [← hwz]; simp [go_sem, p1]
     obtain rfl : wz = setL W4 (w.heap.size + 1) 0 [.slice A5 n5 d5, .slice A6 n6 d6] := hwz.symm
     have hbz := setL_below (b0.trans (b4.mono (by omega))) [.slice A5 n5 d5, .slice A6 n6 d6] (w.heap.size + 1) 0 (by omega)
     have kk : ∀ q, w0.heap.size ≤ q → (setL W4 (w.heap.size + 1) 0 [.slice A5 n5 d5, .slice A6 n6 d6]).heap[q]? = W4.heap[q]? := fun q hq => setL_other _ _ _ _ q (by omega)
     have o5 := oS.keep (w' := setL W4 (w.heap.size + 1) 0 [.slice A5 n5 d5, .slice A6 n6 d6]) (fun q hq _ _ => kk q hq)
     have o6 := oQ.keep (w' := setL W4 (w.heap.size + 1) 0 [.slice A5 n5 d5, .slice A6 n6 d6]) (fun q hq _ _ => kk q hq)
     have sz : (setL W4 (w.heap.size + 1) 0 [.slice A5 n5 d5, .slice A6 n6 d6]).heap.size = W4.heap.size := setL_size _ _ _ _
     clear hwz kk
     generalize setL W4 (w.heap.size + 1) 0 [.slice A5 n5 d5, .slice A6 n6 d6] = wz at *
     refine bodyPost_ret (by simp only [results, Tryz.results95]; simp [go_sem, u0, u1]; rfl) rfl ?_
     exact ⟨_, _, rfl, o5.mono (by omega) (by omega), o6.mono (by omega) (by omega), hbz⟩
 ·go_simp
  refine hK0.out _ _ (SH _ (b0'.alloc b0'.size (.cells #[] 107))) (fun _ => ?_)
  refine held_gen (F := fun W' => W'.ownsRow w0.heap.size 107 2 (.slice (some ⟨W0.heap.size, 0, none⟩) 0 0) 0 [] ∧ Below w0.heap.size w0 W') ⟨own_empty W0 (base := w0.heap.size) 107 2 b0'.size, b0'.alloc b0'.size (.cells #[] 107)⟩ ?_
  rintro W1 ⟨hQ1, b1⟩
  refine wpAnyH_ready (rs := [0]) (by kernel_rfl) (by decide) ?_
  refine AllReadyH.cons rfl (fun K1 hK1 => ?_) AllReadyH.nil
  ·go_simp
   refine hK1.out _ _ (SH _ (b1.alloc b1.size (.cells #[] 93))) (fun _ => ?_)
   refine held_gen (F := fun W' => W'.ownsRow w0.heap.size 93 3 (.slice (some ⟨W1.heap.size, 0, none⟩) 0 0) 0 [] ∧ Below w0.heap.size w0 W' ∧ W'.ownsRow w0.heap.size 107 2 (.slice (some ⟨W0.heap.size, 0, none⟩) 0 0) (0) []) ⟨own_empty W1 (base := w0.heap.size) 93 3 b1.size, b1.alloc b1.size (.cells #[] 93), hQ1.alloc (.cells #[] 93)⟩ ?_
   rintro W2 ⟨hS2, b2, hQ2⟩
   refine wpAnyH_ready (rs := [3]) (by kernel_rfl) (by decide) ?_
   refine AllReadyH.cons rfl (fun K2 hK2 => ?_) AllReadyH.nil
   ·refine step_app_rd rfl _ _ 25 rfl w0.heap.size 93 is _ 3 _ Tryz.underlying25 his hzs0 hzs1 hzs2 rfl (by omega) Sl.cells_len Sl.one (.slice (some ⟨W1.heap.size, 0, none⟩) 0 0) 0 [] rfl hS2 (A := A0) (m := n0) (c := d0) (l := ls) rfl (hs.below b2 hh0) (by unfold maxLen; omega) (by omega) b2.size ?_
    intro v3 W3 hS3 g3
    have b3 : Below w0.heap.size w0 W3 := b2.grown g3 b2.size (own_ge hS2)
    refine hK2.out _ _ (SH _ b3) (fun _ => ?_)
    have hQ3 := own_kept_type hQ2 hS2 g3 (by decide)
    refine wpAnyH_ready (rs := [7]) (by kernel_rfl) (by decide) ?_
    refine AllReadyH.cons rfl (fun K3 hK3 => ?_) AllReadyH.nil
    ·refine step_app_rd rfl _ _ 26 rfl w0.heap.size 107 iq _ 2 _ Tryz.underlying26 hiq hzq0 hzq1 hzq2 rfl (by omega) Wt.cells_len Wt.one (.slice (some ⟨W0.heap.size, 0, none⟩) 0 0) 0 [] rfl hQ3 (A := A) (m := n) (c := c) (l := lw) rfl (hw.below b3 hh1) (by unfold maxLen; omega) (by omega) b3.size ?_
     intro v4 W4 hQ4 g4
     have b4 : Below w0.heap.size w0 W4 := b3.grown g4 b3.size (own_ge hQ3)
     refine hK3.out _ _ (SH _ b4) (fun _ => ?_)
     have hS4 := own_kept_type hS3 hQ3 g4 (by decide)
     have oS := Ow.of_own Sl.cells_len hS4 (l := ls) (by simp) (by have := H0.out; omega)
     have oQ := Ow.of_own Wt.cells_len hQ4 (l := lw) (by simp) (by have := H.out; omega)
     obtain ⟨A5, n5, d5, rfl, _, _, _⟩ := oS.rd.form
     obtain ⟨A6, n6, d6, rfl, _, _, _⟩ := oQ.rd.form
     clear hS4 hQ4
     obtain ⟨hc_, hf_⟩ := bcell b4
     have p0 := (hc_ _ 0 zr).trans r0
     have p1 := (hc_ _ 1 zr).trans r1
     have pz := fun j => (hf_ _ j zr).trans (rz j)
     have x0 := (hc_ _ 0 zq).trans q0
     have x1 := (hc_ _ 1 zq).trans q1
     clear hc_ hf_
     refine wpAnyH_ready (rs := [8]) (by kernel_rfl) (by decide) ?_
     refine AllReadyH.cons rfl (fun K8 hK8 => ?_) AllReadyH.nil
     go_simp
     refine hK8.out _ _ ⟨x0, x1⟩ (fun _ => ?_)
     refine wpAnyH_ready (rs := [9]) (by kernel_rfl) (by decide) ?_
     refine AllReadyH.cons rfl (fun K9 hK9 => ?_) AllReadyH.nil
     go_simp
     refine hK9.out _ _ ⟨by simp [go_sem, x0], by simp [go_sem, x1]⟩ (fun _ => ?_)
     refine ⟨by kernel_rfl, ?_⟩
     go_wp2_with fail
     generalize hwz : World.setCell (World.setCell _ _ _) _ _ = wz
     have u0 : wz.cell? ⟨w.heap.size + 1, 0, none⟩ = some (.slice A5 n5 d5) := by rw [← hwz]; simp [go_sem, p0]
     have u1 : wz.cell? ⟨w.heap.size + 1, 1, none⟩ = some (.slice A6 n6 d6) := by rw [← hwz]; simp [go_sem, p1]
     obtain rfl : wz = setL W4 (w.heap.size + 1) 0 [.slice A5 n5 d5, .slice A6 n6 d6] := hwz.symm
     have hbz := setL_below (b0.trans (b4.mono (by omega))) [.slice A5 n5 d5, .slice A6 n6 d6] (w.heap.size + 1) 0 (by omega)
     have kk : ∀ q, w0.heap.size ≤ q → (setL W4 (w.heap.size + 1) 0 [.slice A5 n5 d5, .slice A6 n6 d6]).heap[q]? = W4.heap[q]? := fun q hq => setL_other _ _ _ _ q (by omega)
     have o5 := oS.keep (w' := setL W4 (w.heap.size + 1) 0 [.slice A5 n5 d5, .slice A6 n6 d6]) (fun q hq _ _ => kk q hq)
     have o6 := oQ.keep (w' := setL W4 (w.heap.size + 1) 0 [.slice A5 n5 d5, .slice A6 n6 d6]) (fun q hq _ _ => kk q hq)
     have sz : (setL W4 (w.heap.size + 1) 0 [.slice A5 n5 d5, .slice A6 n6 d6]).heap.size = W4.heap.size := setL_size _ _ _ _
     clear hwz kk
     generalize setL W4 (w.heap.size + 1) 0 [.slice A5 n5 d5, .slice A6 n6 d6] = wz at *
     refine bodyPost_ret (by simp only [results, Tryz.results95]; simp [go_sem, u0, u1]; rfl) rfl ?_
     exact ⟨_, _, rfl, o5.mono (by omega) (by omega), o6.mono (by omega) (by omega), hbz⟩

end Go.Proofs.YtndfmkbpdoohfaaGreat
