/- The active interrupts, in the program and in the reference. No condition. -/
import Derived.Test.YtaggjadgbmmjoaaSlPub
import Derived.Test.YtaggjadgbmmjoaaSlBest
import Derived.Test.YtaggjadgbmmjoaaAsc
import Derived.Test.YtaggjadgbmmjoaaSortS
namespace Go.Proofs.Ytaggjadgbmmjoaa
open Go.RowKit Go.ChangeShapes Go.WideShapes Go.Deep

theorem asc_at {l : List Int} (h : l.Pairwise (· < ·)) {i j : Nat} {a b : Int} (hi : l[i]? = some a) (hj : l[j]? = some b) (hij : i < j) : a < b := by
  obtain ⟨h1, rfl⟩ := List.getElem?_eq_some_iff.1 hi
  obtain ⟨h2, rfl⟩ := List.getElem?_eq_some_iff.1 hj
  exact List.pairwise_iff_getElem.1 h i j h1 h2 hij
theorem insK_put {l : List Int} {x : Int} (h : l.Pairwise (· < ·)) (hx : x ∉ l) : insK ltI l x = putL x l := by
  have hle := lead_le x l
  have hbk : bk ltI x l = lead x l := bk_eq x l (lead x l) hle (fun j y hj hy => by
    have hne : y ≠ x := fun e => hx (e ▸ List.mem_of_getElem? hy)
    have h0 : l[lead x l]? = some (l[lead x l]'(by have := (List.getElem?_eq_some_iff.1 hy).1; omega)) := List.getElem?_eq_getElem _
    have hne0 : l[lead x l]'(by have := (List.getElem?_eq_some_iff.1 hy).1; omega) ≠ x := fun e => hx (e ▸ List.getElem_mem _)
    have h1 := lead_at x l _ _ (Nat.le_refl _) h0
    rw [ltI, decide_eq_true_eq]
    rcases Nat.eq_or_lt_of_le hj with h2 | h2
    · subst h2
      have := Option.some.inj (h0.symm.trans hy)
      omega
    · have := asc_at h h0 hy h2
      omega) (fun j y hj hy => by
    have := (lead_at x l j y (by omega) hy).2 (by omega)
    rw [ltI, decide_eq_false_iff_not]; omega)
  rw [insK, hbk, putL]
theorem foldIns_asc : ∀ (xs acc : List Int), acc.Pairwise (· < ·) → xs.Nodup → (∀ x ∈ xs, x ∉ acc) → (xs.foldl (insK ltI) acc).Pairwise (· < ·)
  | [], acc, h, _, _ => h
  | x :: xs, acc, h, hn, hd => by
    rw [List.nodup_cons] at hn
    have hx := hd x (by simp)
    rw [List.foldl_cons, insK_put h hx]
    refine foldIns_asc xs _ (putL_asc x acc h hx) hn.2 (fun y hy hm => ?_)
    rcases (mem_putL x y acc).1 hm with rfl | hm
    · exact hn.1 hy
    · exact hd y (List.mem_cons_of_mem _ hy) hm
theorem sortK_asc {xs : List Int} (h : xs.Nodup) : (sortK ltI xs).Pairwise (· < ·) := foldIns_asc xs [] List.Pairwise.nil h (fun _ _ h => by simp at h)

def Sl.isAct (s : Sl) : Bool := s.state == 2 || s.state == 3
def Sl.acts (l : List Sl) : List Int := (l.filter Sl.isAct).map Sl.irq
def Sl.active (l : List Sl) : List Int := accL Sl.isAct Sl.irq l
theorem Sl.acts_pre {l : List Sl} {k : Nat} {s : Sl} (h : l[k]? = some s) : Sl.acts (l.take (k + 1)) = Sl.acts (l.take k) ++ if Sl.isAct s then [s.irq] else [] := by
  rw [List.take_add_one, h, Sl.acts, Sl.acts, List.filter_append, List.map_append]
  congr 1
  cases hq : Sl.isAct s <;> simp [hq]
theorem Sl.acts_len (l : List Sl) : (Sl.acts l).length ≤ l.length := by
  unfold Sl.acts; rw [List.length_map]; exact List.length_filter_le _ _
theorem Sl.acts_nodup {l : List Sl} (hg : Sl.good l = true) : (Sl.acts l).Nodup := by
  unfold Sl.acts List.Nodup
  rw [List.pairwise_map, List.pairwise_filter]
  rw [List.pairwise_iff_getElem]
  intro i j hi hj hij ha hb
  refine Sl.good_ne hg hij (List.getElem?_eq_getElem hi) (List.getElem?_eq_getElem hj) ?_ ?_
  · intro h0; simp [Sl.isAct, h0] at ha
  · intro h0; simp [Sl.isAct, h0] at hb
theorem Sl.active_eq {l : List Sl} (hg : Sl.good l = true) : sortK ltI (Sl.acts l) = Sl.active l := by
  refine asc_ext _ _ (sortK_asc (Sl.acts_nodup hg)) (accL_asc _ _ _) (fun x => ?_)
  rw [sortK_mem, Sl.active, accL_mem]
  simp [Sl.acts, and_assoc]
theorem Sl.active_new {l : List Sl} (hg : Sl.good l = true) {k : Nat} {s : Sl} (h : l[k]? = some s) (ha : Sl.isAct s = true) : s.irq ∉ Sl.active (l.take k) := by
  intro hm
  rw [Sl.active, accL_mem] at hm
  obtain ⟨u, hu, h1, h2⟩ := hm
  obtain ⟨j, hj⟩ := List.getElem?_of_mem hu
  rw [List.getElem?_take] at hj
  split at hj
  · rename_i hjk
    refine Sl.good_ne hg hjk hj h ?_ ?_ h2
    · intro h0; simp [Sl.isAct, h0] at h1
    · intro h0; simp [Sl.isAct, h0] at ha
  · cases hj
def Sl.actR (l : List Sl) : List Int := if Sl.good l then Sl.active l else []
theorem Sl.actR_len (l : List Sl) : (Sl.actR l).length ≤ 1048576 := by
  unfold Sl.actR; split
  · rename_i h
    have := accL_len Sl.isAct Sl.irq l
    have h2 := Sl.good_len h
    unfold Sl.active; omega
  · simp

set_option maxHeartbeats 1000000 in
theorem l8Active_any (v : Value) (l : List Sl) (w : World) {lo hi : Nat} (h : Rd Sl.cells 3 w lo hi v l) (hh : hi ≤ w.heap.size) (hg : Sl.good l = true) :
    Calls Try.prog 24 #[v] w fun e w' => ∃ v', e = .returned v' ∧ Rd Nm.cells 1 w' w.heap.size w'.heap.size v' (Sl.active l) ∧ Below w.heap.size w w' := by
  have hrd := h
  obtain ⟨A, n, c, rfl, H, hc, hm⟩ := h.form
  have hn4 : n ≤ 4 := by rw [H.out, Sl.good_len hg]; decide
  have HG := Lib.hid hg
  clear hg h
  go_enter Try.func24, Try.ntmps24
  go_wp2_with fail
  have hb0 := (Below.refl w.heap.size w).alloc (Nat.le_refl _) (.cells #[] 3)
  have hf0 : Rd Nm.cells 1 (w.alloc (.cells #[] 3)) w.heap.size (w.alloc (.cells #[] 3)).heap.size (.slice (some ⟨w.heap.size, 0, none⟩) 0 0) [] := Rd.empty (by decide)
  generalize w.alloc _ = w1 at hf0 hb0 ⊢
  go_loopw [3, 4] (fun q i wr => ∃ k : Nat, k ≤ n ∧ i = .int .i64 k ∧ Below w.heap.size w wr ∧ Rd Nm.cells 1 wr w.heap.size wr.heap.size q (Sl.active (l.take k))) (fun _ i _ => n - (intOf i).toNat)
  case atStart => exact ⟨0, Nat.zero_le _, rfl, hb0, hf0⟩
  case round =>
    clear hf0 hb0
    obtain ⟨k, hk, rfl, hb, hf⟩ := hrel
    by_cases hlt : k < n
    · obtain ⟨b, off, s, rfl, hs, _, hbl, f0, f1, f2⟩ := Sl.get hrd hlt hb hh
      have hP : Sl.active (l.take (k + 1)) = if Sl.isAct s && !(Sl.active (l.take k)).contains s.irq then putL s.irq (Sl.active (l.take k)) else Sl.active (l.take k) := accL_pre Sl.isAct Sl.irq hs.out
      have hl6 : (Sl.active (l.take k)).length ≤ 1048576 := by
        have := accL_len Sl.isAct Sl.irq (l.take k)
        rw [List.length_take] at this
        unfold Sl.active; omega
      have hstep : Sl.isAct s = true → Hid (Sl.active (l.take (k + 1)) = putL s.irq (Sl.active (l.take k))) ∧ (Calls Try.prog 47 #[u3, .int .i64 s.irq] wr fun e w' => ∃ v', e = .returned v' ∧ Ow Nm.cells 1 3 w' wr.heap.size w'.heap.size v' (putL s.irq (Sl.active (l.take k))) ∧ Below wr.heap.size wr w') := fun ha => by
        have hn := Sl.active_new HG.out hs.out ha
        exact ⟨Lib.hid (by rw [hP, ha]; simp [hn]), l1Put_any u3 _ s.irq wr hf (Nat.le_refl _) hn hl6⟩
      by_cases h2 : s.state = 2
      · obtain ⟨HF, c1⟩ := hstep (by simp [Sl.isAct, h2])
        rw [h2] at f0
        clear h2 hP hstep
        go_wp2_with fail
        refine c1.mono ?_; rintro e w2 ⟨v', rfl, o1, b1⟩
        go_wp2_with fail
        go_roundw
        case rel => exact ⟨k + 1, by omega, by go_num, hb.trans (b1.mono hb.size), by rw [HF.out]; exact o1.rd.mono hb.size (Nat.le_refl _)⟩
        case measure => simp [intOf]; omega
      · by_cases h3 : s.state = 3
        · obtain ⟨HF, c1⟩ := hstep (by simp [Sl.isAct, h3])
          rw [h3] at f0
          clear h2 h3 hP hstep
          go_wp2_with fail
          refine c1.mono ?_; rintro e w2 ⟨v', rfl, o1, b1⟩
          go_wp2_with fail
          go_roundw
          case rel => exact ⟨k + 1, by omega, by go_num, hb.trans (b1.mono hb.size), by rw [HF.out]; exact o1.rd.mono hb.size (Nat.le_refl _)⟩
          case measure => simp [intOf]; omega
        · have HF := Lib.hid (show Sl.active (l.take (k + 1)) = Sl.active (l.take k) from by rw [hP]; simp [Sl.isAct, h2, h3])
          clear hP hstep
          go_wp2_with fail
          go_roundw
          case rel => exact ⟨k + 1, by omega, by go_num, hb, by rw [HF.out]; exact hf⟩
          case measure => simp [intOf]; omega
    · have hkl : l.take k = l := List.take_of_length_le (by rw [← H.out]; omega)
      rw [hkl] at hf
      go_wp2_with fail
      go_ret
      exact ⟨_, rfl, hf, hb⟩
set_option maxHeartbeats 1000000 in
theorem activeIrqs_any (v : Value) (l : List Sl) (w : World) {lo hi : Nat} (h : Rd Sl.cells 3 w lo hi v l) (hh : hi ≤ w.heap.size) (hg : Sl.good l = true) :
    Calls Try.prog 42 #[v] w fun e w' => ∃ v', e = .returned v' ∧ Ow Nm.cells 1 3 w' w.heap.size w'.heap.size v' (Sl.active l) ∧ Below w.heap.size w w' := by
  have hrd := h
  obtain ⟨A, n, c, rfl, H, hc, hm⟩ := h.form
  have hn4 : n ≤ 4 := by rw [H.out, Sl.good_len hg]; decide
  have HE := Lib.hid (Sl.active_eq hg)
  clear hg h
  go_enter Try.func42, Try.ntmps42
  go_wp2_with fail
  have hb0 := (Below.refl w.heap.size w).alloc (Nat.le_refl _) (.cells #[] 3)
  have hf0 := own_empty w (base := w.heap.size) 3 1 (Nat.le_refl _)
  generalize w.alloc _ = w1 at hf0 hb0 ⊢
  go_loopw [3, 9] (fun q i wr => ∃ (k m : Nat), k ≤ n ∧ i = .int .i64 k ∧ Hid (m = (Sl.acts (l.take k)).length) ∧ m ≤ k ∧ Below w.heap.size w wr ∧ wr.ownsRow w.heap.size 3 1 q m ((Sl.acts (l.take k)).flatMap Nm.cells)) (fun _ i _ => n - (intOf i).toNat)
  case atStart => exact ⟨0, 0, Nat.zero_le _, rfl, Lib.hid rfl, Nat.le_refl _, hb0, hf0⟩
  case round =>
    clear hf0 hb0
    obtain ⟨k, m, hk, rfl, HM, hmk, hb, hf⟩ := hrel
    have hbs := hb.size
    by_cases hlt : k < n
    · obtain ⟨b, off, s, rfl, hs, _, hbl, f0, f1, f2⟩ := Sl.get hrd hlt hb hh
      have hP := Sl.acts_pre hs.out
      have c1 := fun W => isActive_at s.state s.irq s.prio W
      have hrfl : Sl.isAct s = (s.state == 2 || s.state == 3) := rfl
      rw [← hrfl] at c1
      clear hrfl
      cases hq : Sl.isAct s
      · have HF := Lib.hid (show Sl.acts (l.take (k + 1)) = Sl.acts (l.take k) from by rw [hP, hq]; simp)
        rw [hq] at c1
        clear hP hq
        go_wp2_with fail
        refine (c1 _).mono ?_; rintro e w2 ⟨rfl, b2⟩
        have hf2 := (hf.alloc (.cells #[.int .i64 s.state, .int .i64 s.irq, .int .i64 s.prio] 33)).kept (World.grownBy.mk b2.os b2.tape b2.output b2.size (fun k hk _ => b2.block k hk) : (wr.alloc (.cells #[.int .i64 s.state, .int .i64 s.irq, .int .i64 s.prio] 33)).grownBy w2 none) (by cases hv : u3.ownBlock <;> simp)
        have hb2 := (hb.alloc hb.size (.cells #[.int .i64 s.state, .int .i64 s.irq, .int .i64 s.prio] 33)).trans (b2.mono (by simp; omega))
        go_wp2_with fail
        go_roundw
        case rel => exact ⟨k + 1, m, by omega, by go_num, Lib.hid (by rw [HF.out, HM.out]), by omega, hb2, by rw [HF.out]; exact hf2⟩
        case measure => simp [intOf]; omega
      · have HF := Lib.hid (show Sl.acts (l.take (k + 1)) = Sl.acts (l.take k) ++ [s.irq] from by rw [hP, hq]; simp)
        rw [hq] at c1
        clear hP hq
        go_wp2_with fail
        refine (c1 _).mono ?_; rintro e w2 ⟨rfl, b2⟩
        have g1 : w2.cell? ⟨wr.heap.size, 1, none⟩ = some (.int .i64 s.irq) := (b2.cell (p := ⟨wr.heap.size, 1, none⟩) (by simp)).trans (by simp)
        have hf2 := (hf.alloc (.cells #[.int .i64 s.state, .int .i64 s.irq, .int .i64 s.prio] 33)).kept (World.grownBy.mk b2.os b2.tape b2.output b2.size (fun k hk _ => b2.block k hk) : (wr.alloc (.cells #[.int .i64 s.state, .int .i64 s.irq, .int .i64 s.prio] 33)).grownBy w2 none) (by cases hv : u3.ownBlock <;> simp)
        have hb2 := (hb.alloc hb.size (.cells #[.int .i64 s.state, .int .i64 s.irq, .int .i64 s.prio] 33)).trans (b2.mono (by simp; omega))
        have hz2 := hb2.size
        clear b2 c1
        go_wp2_with (at_builtin; (refine Nm.app_one rfl _ _ rfl w.heap.size u3 m _ rfl (hf2.alloc _) (g := w2.heap.size) (c := 1) s.irq rfl ?hc0 (by omega) (by simp <;> omega) ?_); (rotate_left); (intro v3 w3 hf3 hg3))
        go_roundw
        case rel =>
          refine ⟨k + 1, m + 1, by omega, by go_num, Lib.hid (by rw [HF.out, List.length_append, HM.out]; rfl), by omega, (hb2.alloc hb2.size _).grown hg3 (by simp <;> omega) (fun j hj => (hf2.lt j hj).1), ?_⟩
          rw [HF.out, List.flatMap_append]
          exact hf3
        case measure => simp [intOf]; omega
        case hc0 =>
          intro j u hu
          simpa [Nm.cells] using hu
    · have hkl : l.take k = l := List.take_of_length_le (by rw [← H.out]; omega)
      rw [hkl] at hf HM
      have ow := Ow.of_own Nm.cells_len hf rfl HM.out
      have c2 := sortInts_any w u3 _ (by rw [← HM.out]; omega) wr hb ow (Nat.le_refl _)
      rw [HE.out] at c2
      go_wp2_with fail
      refine c2.mono ?_; rintro e w2 ⟨rfl, o2, hh2, b2⟩
      go_wp2_with fail
      go_ret
      exact ⟨_, rfl, o2.mono (Nat.le_refl _) hh2, b2⟩
theorem specActiveIrqs_any (v : Value) (l : List Sl) (w : World) {lo hi : Nat} (h : Rd Sl.cells 3 w lo hi v l) (hh : hi ≤ w.heap.size) :
    Calls Try.prog 19 #[v] w fun r w' => ∃ v', r = .returned (.tuple #[v', .bool (Sl.good l)]) ∧ Rd Nm.cells 1 w' 0 w'.heap.size v' (Sl.actR l) ∧ Below w.heap.size w w' := by
  have c1 := l8Good_any v l w h hh
  have c3 := fun (hg : Sl.good l = true) (W : World) (kb : Below w.heap.size w W) => l8Active_any v l W (h.below kb hh) (Nat.le_trans hh kb.size) hg
  obtain ⟨A, n, c, rfl, H, hc, hm⟩ := h.form
  cases hg : Sl.good l
  · have HF := Lib.hid (show Sl.actR l = [] from by simp [Sl.actR, hg])
    rw [hg] at c1
    clear hg c3
    go_enter Try.func19, Try.ntmps19
    go_wp2_with fail
    refine c1.mono ?_; rintro q_ w1 ⟨rfl, b1⟩
    go_wp2_with fail
    go_ret2
    exact ⟨_, rfl, by rw [HF.out]; exact Rd.empty (by decide), b1.alloc b1.size _⟩
  · have HF := Lib.hid (show Sl.actR l = Sl.active l from by simp [Sl.actR, hg])
    have c3 := c3 hg
    rw [hg] at c1
    clear hg
    go_enter Try.func19, Try.ntmps19
    go_wp2_with fail
    refine c1.mono ?_; rintro q_ w1 ⟨rfl, b1⟩
    go_wp2_with fail
    refine (c3 _ b1).mono ?_; rintro q_ w3 ⟨v', rfl, o1, b3⟩
    go_wp2_with fail
    go_ret2
    exact ⟨v', rfl, by rw [HF.out]; exact o1.mono (Nat.zero_le _) (Nat.le_refl _), b1.trans (b3.mono b1.size)⟩
theorem implActiveIrqs_any (v : Value) (l : List Sl) (w : World) {lo hi : Nat} (h : Rd Sl.cells 3 w lo hi v l) (hh : hi ≤ w.heap.size) :
    Calls Try.prog 18 #[v] w fun r w' => ∃ v', r = .returned (.tuple #[v', .bool (Sl.good l)]) ∧ Ow Nm.cells 1 3 w' w.heap.size w'.heap.size v' (Sl.actR l) ∧ (Sl.actR l).length ≤ 1048576 ∧ Below w.heap.size w w' := by
  have hlen := Sl.actR_len l
  have c1 := implAreSlots_any v l w h hh
  have c3 := fun (hg : Sl.good l = true) (W : World) (kb : Below w.heap.size w W) => activeIrqs_any v l W (h.below kb hh) (Nat.le_trans hh kb.size) hg
  obtain ⟨A, n, c, rfl, H, hc, hm⟩ := h.form
  cases hg : Sl.good l
  · have HF := Lib.hid (show Sl.actR l = [] from by simp [Sl.actR, hg])
    rw [hg] at c1
    clear hg c3
    go_enter Try.func18, Try.ntmps18
    go_wp2_with fail
    refine c1.mono ?_; rintro q_ w1 ⟨rfl, b1⟩
    go_wp2_with fail
    go_ret2
    exact ⟨_, rfl, by rw [HF.out]; exact Ow.nil_, hlen, b1⟩
  · have HF := Lib.hid (show Sl.actR l = Sl.active l from by simp [Sl.actR, hg])
    have c3 := c3 hg
    rw [hg] at c1
    clear hg
    go_enter Try.func18, Try.ntmps18
    go_wp2_with fail
    refine c1.mono ?_; rintro q_ w1 ⟨rfl, b1⟩
    go_wp2_with fail
    refine (c3 _ b1).mono ?_; rintro q_ w3 ⟨v', rfl, o1, b3⟩
    go_wp2_with fail
    go_ret2
    exact ⟨v', rfl, by rw [HF.out]; exact o1.mono b1.size (Nat.le_refl _), hlen, b1.trans (b3.mono b1.size)⟩

end Go.Proofs.Ytaggjadgbmmjoaa
