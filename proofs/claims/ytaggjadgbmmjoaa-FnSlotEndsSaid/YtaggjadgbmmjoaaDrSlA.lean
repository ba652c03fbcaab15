/- The slots' draws: active ones of slots that need not be valid but differ, and taking from an own row. No condition but those. -/
import Derived.Test.YtaggjadgbmmjoaaSlAct
import Derived.Test.YtaggjadgbmmjoaaSlTake
import Derived.Test.YtaggjadgbmmjoaaQuMath2
namespace Go.Proofs.Ytaggjadgbmmjoaa
open Go.RowKit Go.ChangeShapes Go.WideShapes Go.Deep

/-- the active interrupts differ -/
def Sl.dis (l : List Sl) : Prop := (Sl.acts l).Nodup
theorem Sl.dis_good {l : List Sl} (h : Sl.good l = true) : Sl.dis l := Sl.acts_nodup h
theorem Sl.filt_set {x : Sl} (hx : Sl.isAct x = false) : ∀ (l : List Sl) (k : Nat), ((l.set k x).filter Sl.isAct).Sublist (l.filter Sl.isAct)
  | [], k => by simp
  | s :: l, 0 => by
    rw [List.set_cons_zero, List.filter_cons, if_neg (by simp [hx]), List.filter_cons]
    split
    · exact List.sublist_cons_self _ _
    · exact List.Sublist.refl _
  | s :: l, k + 1 => by
    have ih := Sl.filt_set hx l k
    rw [List.set_cons_succ, List.filter_cons, List.filter_cons]
    split
    · exact ih.cons_cons _
    · exact ih
theorem Sl.acts_set {x : Sl} (hx : Sl.isAct x = false) (l : List Sl) (k : Nat) : (Sl.acts (l.set k x)).Sublist (Sl.acts l) := (Sl.filt_set hx l k).map _
theorem Sl.dis_set {l : List Sl} (h : Sl.dis l) {x : Sl} (hx : Sl.isAct x = false) (k : Nat) : Sl.dis (l.set k x) := h.sublist (Sl.acts_set hx l k)
theorem Sl.dis_snoc {l : List Sl} (h : Sl.dis l) {x : Sl} (hx : Sl.isAct x = false) : Sl.dis (l ++ [x]) := by
  unfold Sl.dis Sl.acts at *
  rw [List.filter_append]
  simp only [List.filter_cons, hx]
  simpa using h
theorem Sl.active_dis {l : List Sl} (hd : Sl.dis l) {k : Nat} {s : Sl} (h : l[k]? = some s) (ha : Sl.isAct s = true) : s.irq ∉ Sl.active (l.take k) := by
  intro hm
  rw [Sl.active, accL_mem] at hm
  obtain ⟨u, hu, h1, h2⟩ := hm
  have hk : k < l.length := (List.getElem?_eq_some_iff.1 h).1
  have hs : s = l[k] := ((List.getElem?_eq_some_iff.1 h).2).symm
  have hsplit : l = l.take k ++ s :: l.drop (k + 1) := by
    rw [hs, List.getElem_cons_drop, List.take_append_drop]
  unfold Sl.dis Sl.acts at hd
  rw [hsplit, List.filter_append, List.map_append, List.nodup_append] at hd
  refine hd.2.2 u.irq (List.mem_map.2 ⟨u, List.mem_filter.2 ⟨hu, h1⟩, rfl⟩) s.irq (List.mem_map.2 ⟨s, List.mem_filter.2 ⟨by simp, ha⟩, rfl⟩) h2
theorem Sl.good_put {l : List Sl} (h : Sl.good l = true) {i p : Int} (hi : 0 ≤ i ∧ i ≤ 7) (hp : 0 ≤ p ∧ p ≤ 15) (hk : Sl.putOk l i = true) : Sl.good (Sl.putR l i p) = true := by
  by_cases hx : 0 ≤ Sl.ix l i
  · obtain ⟨k, s, hk, hkl, hs, h0, h1⟩ := Sl.ix_hit hx
    rw [(Sl.put_hit hk hs).2]
    obtain ⟨f1, f2, f3⟩ := Sl.fine_both (Sl.good_fine h hs) h0
    exact Sl.good_set h f1 (fun _ j u hj hu hu0 => by rw [f3]; exact Sl.good_two h hj hu hs hu0 h0)
  · have hx1 : Sl.ix l i < 0 := by omega
    have hix : Sl.ix l i = -1 := by
      rcases find_cases (Sl.has i) l with h1 | ⟨k, s, h1, _⟩
      · exact h1.1
      · change Sl.ix l i = k at h1; omega
    rcases find_cases Sl.free l with h1 | ⟨k, s, h1, hkl, hs, hf⟩
    · have h1 : Sl.fx l = -1 := h1.1
      rw [(Sl.put_no (p := p) hix h1).1] at hk; cases hk
    · have h1 : Sl.fx l = k := h1
      rw [(Sl.put_new hix h1).2]
      refine Sl.good_set h (by simp [Sl.fine]; omega) (fun _ j u hj hu hu0 => ?_)
      exact Sl.ix_neg.1 hx1 u (List.mem_of_getElem? hu) hu0
theorem Sl.good_end {l : List Sl} (h : Sl.good l = true) {i : Int} (hk : Sl.endOk l i = true) : Sl.good (Sl.endR l i) = true := by
  obtain ⟨k, s, h1, hkl, hs, h0, h2, _, h3⟩ := Sl.endOk_hit hk
  rw [h3]
  obtain ⟨f1, f2⟩ := Sl.fine_ended (Sl.good_fine h hs) h0
  exact Sl.good_set h f1 (fun hx j u hj hu hu0 => by rw [f2 hx]; exact Sl.good_two h hj hu hs hu0 h0)
theorem Sl.good_tk {l : List Sl} (h : Sl.good l = true) (m : Int) : Sl.good (Sl.tkL l m) = true := by
  unfold Sl.tkL
  split
  · rename_i hk
    obtain ⟨k, s, h1, hkl, hs, h0, h2, h3, _⟩ := Sl.tkOk_hit hk
    rw [h3]
    obtain ⟨f1, f2⟩ := Sl.fine_act (Sl.good_fine h hs) (by omega)
    exact Sl.good_set h f1 (fun hx j u hj hu hu0 => by rw [f2 hx]; exact Sl.good_two h hj hu hs hu0 (by omega))
  · exact h
theorem Sl.good4 : Sl.good [⟨0, 0, 0⟩, ⟨0, 0, 0⟩, ⟨0, 0, 0⟩, ⟨0, 0, 0⟩] = true := by decide

set_option maxHeartbeats 1000000 in
theorem l8Active_dis (v : Value) (l : List Sl) (w : World) {lo hi : Nat} (h : Rd Sl.cells 3 w lo hi v l) (hh : hi ≤ w.heap.size) (hd : Sl.dis l) (hlen : l.length ≤ 10) :
    Calls Try.prog 24 #[v] w fun e w' => ∃ v', e = .returned v' ∧ Rd Nm.cells 1 w' w.heap.size w'.heap.size v' (Sl.active l) ∧ Below w.heap.size w w' := by
  have hrd := h
  obtain ⟨A, n, c, rfl, H, hc, hm⟩ := h.form
  have hn4 : n ≤ 10 := by rw [H.out]; exact hlen
  have HG := Lib.hid hd
  clear hd h
  go_enter Try.func24, Try.ntmps24
  go_wp2_with fail
  have hb0 := (Below.refl w.heap.size w).alloc (Nat.le_refl _) (.cells #[] 3)
  have hf0 : Rd Nm.cells 1 (w.alloc (.cells #[] 3)) w.heap.size (w.alloc (.cells #[] 3)).heap.size (.slice (some ⟨w.heap.size, 0, none⟩) 0 0) [] := Rd.empty (by decide)
  generalize w.alloc _ = w1 at hf0 hb0 ⊢
  go_loopw [3, 4] (fun q i wr => ∃ k : Nat, k ≤ n ∧ i = .int .i64 k ∧ Below w.heap.size w wr ∧ Rd Nm.cells 1 wr w.heap.size wr.heap.size q (Sl.active (l.take k))) (fun _ i _ => n - (intOf i).toNat)
  case atStart => exact ⟨0, Nat.zero_le _, rfl, hb0, hf0⟩
  case round =>
    clear hf0 hb0
    obtain ⟨k, hk, rfl, hb, hf⟩ := hrel
    by_cases hlt : k < n
    · obtain ⟨b, off, s, rfl, hs, _, hbl, f0, f1, f2⟩ := Sl.get hrd hlt hb hh
      have hP : Sl.active (l.take (k + 1)) = if Sl.isAct s && !(Sl.active (l.take k)).contains s.irq then putL s.irq (Sl.active (l.take k)) else Sl.active (l.take k) := accL_pre Sl.isAct Sl.irq hs.out
      have hl6 : (Sl.active (l.take k)).length ≤ 1048576 := by
        have := accL_len Sl.isAct Sl.irq (l.take k)
        rw [List.length_take] at this
        unfold Sl.active; omega
      have hstep : Sl.isAct s = true → Hid (Sl.active (l.take (k + 1)) = putL s.irq (Sl.active (l.take k))) ∧ (Calls Try.prog 47 #[u3, .int .i64 s.irq] wr fun e w' => ∃ v', e = .returned v' ∧ Ow Nm.cells 1 3 w' wr.heap.size w'.heap.size v' (putL s.irq (Sl.active (l.take k))) ∧ Below wr.heap.size wr w') := fun ha => by
        have hn := Sl.active_dis HG.out hs.out ha
        exact ⟨Lib.hid (by rw [hP, ha]; simp [hn]), l1Put_any u3 _ s.irq wr hf (Nat.le_refl _) hn hl6⟩
      by_cases h2 : s.state = 2
      · obtain ⟨HF, c1⟩ := hstep (by simp [Sl.isAct, h2])
        rw [h2] at f0
        clear h2 hP hstep
        go_wp2_with fail
        refine c1.mono ?_; rintro e w2 ⟨v', rfl, o1, b1⟩
        go_wp2_with fail
        go_roundw
        case rel => exact ⟨k + 1, by omega, by go_num, hb.trans (b1.mono hb.size), by rw [HF.out]; exact o1.rd.mono hb.size (Nat.le_refl _)⟩
        case measure => simp [intOf]; omega
      · by_cases h3 : s.state = 3
        · obtain ⟨HF, c1⟩ := hstep (by simp [Sl.isAct, h3])
          rw [h3] at f0
          clear h2 h3 hP hstep
          go_wp2_with fail
          refine c1.mono ?_; rintro e w2 ⟨v', rfl, o1, b1⟩
          go_wp2_with fail
          go_roundw
          case rel => exact ⟨k + 1, by omega, by go_num, hb.trans (b1.mono hb.size), by rw [HF.out]; exact o1.rd.mono hb.size (Nat.le_refl _)⟩
          case measure => simp [intOf]; omega
        · have HF := Lib.hid (show Sl.active (l.take (k + 1)) = Sl.active (l.take k) from by rw [hP]; simp [Sl.isAct, h2, h3])
          clear hP hstep
          go_wp2_with fail
          go_roundw
          case rel => exact ⟨k + 1, by omega, by go_num, hb, by rw [HF.out]; exact hf⟩
          case measure => simp [intOf]; omega
    · have hkl : l.take k = l := List.take_of_length_le (by rw [← H.out]; omega)
      rw [hkl] at hf
      go_wp2_with fail
      go_ret
      exact ⟨_, rfl, hf, hb⟩
set_option maxHeartbeats 1000000 in
theorem specTake_ow (v : Value) (l : List Sl) (m : Int) (w : World) {lo hi : Nat} (h : Ow Sl.cells 3 33 w lo hi v l) (hlo : lo ≤ w.heap.size) (hh : hi ≤ w.heap.size) (hg : Sl.good l = true) :
    Calls Try.prog 45 #[v, .int .i64 m] w fun r w' => ∃ v', r = .returned (.tuple #[v', .int .i64 (Sl.tkW l m)]) ∧ Ow Sl.cells 3 33 w' lo w'.heap.size v' (Sl.tkL l m) ∧ Below w.heap.size w w' := by
  have hl : l.length ≤ 1048576 := by rw [Sl.good_len hg]; decide
  have c1 := l8Best_any v l true w h.rd hh
  change Calls _ _ _ _ (fun e w' => e = .returned (.int .i64 (Sl.bx l)) ∧ Below w.heap.size w w') at c1
  have c3 := fun (W : World) (kb : Below w.heap.size w W) (k : Nat) (s : Sl) (hk : k < l.length) => specWith_any v l k s W (h.rd.below kb hh) (Nat.le_trans hh kb.size) hk hl
  have hrd := h
  obtain ⟨A, n, c, rfl, H, hc, hm⟩ := h.form
  clear hg
  rcases Sl.bx_cases l with hf | ⟨k, s, hf, hk, hs, _⟩
  · rw [hf] at c1
    have HF := Lib.hid (Sl.tk_no (l := l) (m := m) (by simp [Sl.tkOk, hf]))
    clear hf c3
    go_enter Try.func45, Try.ntmps45
    go_wp2_with fail
    refine c1.mono ?_; rintro q_ w1 ⟨rfl, b1⟩
    go_wp2_with fail
    go_ret2
    exact ⟨_, by rw [HF.out.2.2.2.2]; rfl, by rw [HF.out.2.2.2.1]; exact (hrd.below b1 hh).mono (Nat.le_refl _) (Nat.le_trans hh b1.size), b1⟩
  · rw [hf] at c1
    have hkn : k < n := by rw [H.out]; exact hk
    have HT := Lib.hid hs
    have hj0 : decide ((k : Int) < 0) = false := by simp
    by_cases hp : s.prio < m
    · have HF := Lib.hid (Sl.tk_yes hf hs hp)
      have hd : decide (m ≤ s.prio) = false := decide_eq_false (by omega)
      have c3 := fun W kb => c3 W kb k (Sl.act s) hk
      unfold Sl.act Sl.val at c3
      simp only at c3
      unfold Sl.act at HF
      clear hf hs hp
      go_enter Try.func45, Try.ntmps45
      go_wp2_with fail
      refine c1.mono ?_; rintro q_ w1 ⟨rfl, b1⟩
      obtain ⟨b, off, t, rfl, ht, _, hbl, f0, f1, f2⟩ := Sl.get hrd.rd hkn b1 hh
      obtain rfl := Option.some.inj (HT.out.symm.trans ht.out)
      have hbw1 : b < w1.heap.size := by have := b1.size; omega
      go_wp2_with fail
      have k0 : (w1.alloc (.cells #[.int .i64 2, .int .i64 s.irq, .int .i64 s.prio] 33)).cell? ⟨w1.heap.size, 0, none⟩ = some (.int .i64 2) := by simp
      have k1 : (w1.alloc (.cells #[.int .i64 2, .int .i64 s.irq, .int .i64 s.prio] 33)).cell? ⟨w1.heap.size, 1, none⟩ = some (.int .i64 s.irq) := by simp
      have k2 : (w1.alloc (.cells #[.int .i64 2, .int .i64 s.irq, .int .i64 s.prio] 33)).cell? ⟨w1.heap.size, 2, none⟩ = some (.int .i64 s.prio) := by simp
      have bx := b1.alloc b1.size (.cells #[.int .i64 2, .int .i64 s.irq, .int .i64 s.prio] 33)
      have z2 : w1.heap.size < (w1.alloc (.cells #[.int .i64 2, .int .i64 s.irq, .int .i64 s.prio] 33)).heap.size := by simp
      have zz := bx.size
      clear f0 f1 f2
      generalize w1.alloc _ = w2 at bx k0 k1 k2 z2 zz ⊢
      have c5 := c3 w2.drew (bx.drew)
      go_region_with (go_at_call 39; refine c5.mono ?_; rintro q_ w3 ⟨v', rfl, o1, b3⟩; (try simp only [World.size_drew] at b3 o1); (have k3 := (b3.cell (p := ⟨w1.heap.size, 1, none⟩) z2).trans k1))
      all_goals
        have bx := bx.drew
        go_wp2_with fail
        go_ret2
        exact ⟨v', by rw [HF.out.2.2.2.2]; rfl, by rw [HF.out.2.2.2.1]; exact o1.mono (Nat.le_trans hlo zz) (Nat.le_refl _), bx.trans (b3.mono zz)⟩
    · have HF := Lib.hid (Sl.tk_no (l := l) (m := m) (by simp [Sl.tkOk, hf, Sl.at_get hs, hp]))
      have hd : decide (m ≤ s.prio) = true := decide_eq_true (by omega)
      clear hf hs hp c3
      go_enter Try.func45, Try.ntmps45
      go_wp2_with fail
      refine c1.mono ?_; rintro q_ w1 ⟨rfl, b1⟩
      have hrd2 := hrd
      obtain ⟨b, off, t, rfl, ht, _, hbl, f0, f1, f2⟩ := Sl.get hrd.rd hkn b1 hh
      obtain rfl := Option.some.inj (HT.out.symm.trans ht.out)
      have hbw1 : b < w1.heap.size := by have := b1.size; omega
      go_wp2_with fail
      go_ret2
      exact ⟨_, by rw [HF.out.2.2.2.2]; rfl, by rw [HF.out.2.2.2.1]; exact (hrd.below b1 hh).mono (Nat.le_refl _) (Nat.le_trans hh b1.size), b1⟩

end Go.Proofs.Ytaggjadgbmmjoaa
