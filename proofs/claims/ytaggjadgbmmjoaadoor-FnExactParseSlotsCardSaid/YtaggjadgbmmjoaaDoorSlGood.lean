/- Whether slots are valid, in the program and in the reference. No condition. -/
import Derived.Test.YtaggjadgbmmjoaaDoorSl
namespace Go.Proofs.YtaggjadgbmmjoaaDoor
open Go.RowKit Go.ChangeShapes Go.WideShapes Go.Deep

theorem inB03 {x : Int} (h : inB x 0 3 = true) (h0 : ¬ x = 0) : inB x 1 3 = true := by rw [inB_iff] at *; omega
theorem inB13 {x : Int} (h : inB x 1 3 = true) : inB x 0 3 = true := by rw [inB_iff] at *; omega

set_option maxHeartbeats 1000000 in
theorem l8Good_any (v : Value) (l : List Sl) (w : World) {lo hi : Nat} (h : Rd Sl.cells 3 w lo hi v l) (hh : hi ≤ w.heap.size) : Calls Tryd.prog 14 #[v] w fun e w' => e = .returned (.bool (Sl.good l)) ∧ Below w.heap.size w w' := by
  have hrd := h
  obtain ⟨A, n, c, rfl, H, hc, hm⟩ := h.form
  have c1 := fun x W => l1In_any x 0 3 W
  have c2 := fun x W => l6Irq_any x W
  have c3 := fun x W => l6Prio_any x W
  have c4 := fun x (W : World) (k : Below w.heap.size w W) => l8Find_any _ l x W (hrd.below k hh) (Nat.le_trans hh k.size)
  go_enter Tryd.func14, Tryd.ntmps14
  go_wp2_with fail
  go_loopw [3] (fun i wr => ∃ k : Nat, k ≤ n ∧ i = .int .i64 k ∧ Below w.heap.size w wr ∧ Sl.upTo l k = true) (fun i _ => n - (intOf i).toNat)
  case atStart => exact ⟨0, Nat.zero_le _, rfl, Below.refl _ _, rfl⟩
  case round =>
    obtain ⟨k, hk, rfl, hb, he⟩ := hrel
    have HE := Lib.hid he
    clear he
    have hbs := hb.size
    by_cases hlt : k < n
    · obtain ⟨b, off, s, rfl, hs, _, hbl, f0, f1, f2⟩ := Sl.get h hlt hb hh
      have hb2 := hb.alloc hb.size (.cells #[.int .i64 s.state, .int .i64 s.irq, .int .i64 s.prio] 37)
      have HN := Lib.hid (fun hq => Sl.upTo_no (l := l) (k := k) (s := s) (by rw [← H.out]; exact hlt) hs.out hq)
      have HY := Lib.hid (fun (hq : Sl.okAt l k s = true) => show Sl.upTo l (k + 1) = true from by rw [Sl.upTo_succ hs.out, HE.out, hq]; rfl)
      have HI := Lib.hid (fun (h0 : ¬ s.state = 0) => Sl.find_at hs.out h0)
      have c1 := c1 s.state
      have c2 := c2 s.irq
      have c3 := c3 s.prio
      have c4 := c4 s.irq
      cases h1 : inB s.state 0 3
      · have HF := Lib.hid (HN.out (by
          have h0 : ¬ s.state = 0 := fun e => by rw [e] at h1; simp [inB] at h1
          have : inB s.state 1 3 = false := by cases hq : inB s.state 1 3 with
            | false => rfl
            | true => rw [inB13 hq] at h1; cases h1
          simp [Sl.okAt, h0, this]))
        rw [h1] at c1
        clear h1
        go_wp2_with fail
        refine (c1 _).mono ?_; rintro q w' ⟨rfl, rfl⟩
        go_wp2_with fail
        go_ret
        exact ⟨ret_bool HF.out.symm, hb2⟩
      · cases h2 : inB s.irq 0 7
        · have HF := Lib.hid (HN.out (by
            by_cases h0 : s.state = 0
            · have : ¬ s.irq = 0 := fun e => by rw [e] at h2; simp [inB] at h2
              simp [Sl.okAt, h0, this]
            · simp [Sl.okAt, h0, h2]))
          rw [h1] at c1
          rw [h2] at c2
          clear h1 h2
          go_wp2_with fail
          refine (c1 _).mono ?_; rintro q w' ⟨rfl, rfl⟩
          go_wp2_with fail
          refine (c2 _).mono ?_; rintro q w' ⟨rfl, rfl⟩
          go_wp2_with fail
          go_ret
          exact ⟨ret_bool HF.out.symm, hb2⟩
        · cases h3 : inB s.prio 0 15
          · have HF := Lib.hid (HN.out (by
              by_cases h0 : s.state = 0
              · have : ¬ s.prio = 0 := fun e => by rw [e] at h3; simp [inB] at h3
                simp [Sl.okAt, h0, this]
              · simp [Sl.okAt, h0, h3]))
            rw [h1] at c1
            rw [h2] at c2
            rw [h3] at c3
            clear h1 h2 h3
            go_wp2_with fail
            refine (c1 _).mono ?_; rintro q w' ⟨rfl, rfl⟩
            go_wp2_with fail
            refine (c2 _).mono ?_; rintro q w' ⟨rfl, rfl⟩
            go_wp2_with fail
            refine (c3 _).mono ?_; rintro q w' ⟨rfl, rfl⟩
            go_wp2_with fail
            go_ret
            exact ⟨ret_bool HF.out.symm, hb2⟩
          · by_cases h0 : s.state = 0
            · by_cases hi0 : s.irq = 0
              · by_cases hp0 : s.prio = 0
                · have HF := Lib.hid (HY.out (by simp [Sl.okAt, h0, hi0, hp0]))
                  rw [h1] at c1
                  rw [h2] at c2
                  rw [h3] at c3
                  clear h1 h2 h3 c4 HI HN HY
                  rw [h0] at c1 f0
                  rw [hi0] at c2 f1
                  rw [hp0] at c3 f2
                  rw [h0, hi0, hp0] at hb2
                  clear h0 hi0 hp0
                  go_wp2_with fail
                  refine (c1 _).mono ?_; rintro q w' ⟨rfl, rfl⟩
                  go_wp2_with fail
                  refine (c2 _).mono ?_; rintro q w' ⟨rfl, rfl⟩
                  go_wp2_with fail
                  refine (c3 _).mono ?_; rintro q w' ⟨rfl, rfl⟩
                  go_wp2_with fail
                  go_roundw
                  case rel => exact ⟨k + 1, by omega, by go_num, hb2, HF.out⟩
                  case measure => simp [intOf]; omega
                · have HF := Lib.hid (HN.out (by simp [Sl.okAt, h0, hp0]))
                  rw [h1] at c1
                  rw [h2] at c2
                  rw [h3] at c3
                  clear h1 h2 h3 c4 HI HN HY
                  rw [h0] at c1 f0
                  rw [hi0] at c2 f1
                  rw [h0, hi0] at hb2
                  clear h0 hi0
                  go_wp2_with fail
                  refine (c1 _).mono ?_; rintro q w' ⟨rfl, rfl⟩
                  go_wp2_with fail
                  refine (c2 _).mono ?_; rintro q w' ⟨rfl, rfl⟩
                  go_wp2_with fail
                  refine (c3 _).mono ?_; rintro q w' ⟨rfl, rfl⟩
                  go_wp2_with fail
                  go_ret
                  exact ⟨ret_bool HF.out.symm, hb2⟩
              · have HF := Lib.hid (HN.out (by simp [Sl.okAt, h0, hi0]))
                rw [h1] at c1
                rw [h2] at c2
                rw [h3] at c3
                clear h1 h2 h3 c4 HI HN HY
                rw [h0] at c1 f0
                rw [h0] at hb2
                clear h0
                go_wp2_with fail
                refine (c1 _).mono ?_; rintro q w' ⟨rfl, rfl⟩
                go_wp2_with fail
                refine (c2 _).mono ?_; rintro q w' ⟨rfl, rfl⟩
                go_wp2_with fail
                refine (c3 _).mono ?_; rintro q w' ⟨rfl, rfl⟩
                go_wp2_with fail
                go_ret
                exact ⟨ret_bool HF.out.symm, hb2⟩
            · have HI2 := HI.out h0
              by_cases hf : findIx (Sl.has s.irq) l = k
              · have HF := Lib.hid (HY.out (by simp only [Sl.okAt, if_neg h0, inB03 h1 h0, h2, h3, HI2.1 hf]; rfl))
                rw [h1] at c1
                rw [h2] at c2
                rw [h3] at c3
                rw [hf] at c4
                clear h1 h2 h3 HI HN HY HI2 hf
                go_wp2_with fail
                refine (c1 _).mono ?_; rintro q w' ⟨rfl, rfl⟩
                go_wp2_with fail
                refine (c2 _).mono ?_; rintro q w' ⟨rfl, rfl⟩
                go_wp2_with fail
                refine (c3 _).mono ?_; rintro q w' ⟨rfl, rfl⟩
                go_wp2_with fail
                refine (c4 _ hb2).mono ?_; rintro q w' ⟨rfl, rfl⟩
                go_wp2_with fail
                go_roundw
                case rel => exact ⟨k + 1, by omega, by go_num, hb2, HF.out⟩
                case measure => simp [intOf]; omega
              · have HF := Lib.hid (HN.out (by
                  have : (l.take k).any (Sl.has s.irq) = true := by
                    cases hq : (l.take k).any (Sl.has s.irq) with
                    | true => rfl
                    | false => exact absurd (HI2.2 hq) hf
                  simp only [Sl.okAt, if_neg h0, this]; simp))
                generalize findIx (Sl.has s.irq) l = z at c4 hf
                rw [h1] at c1
                rw [h2] at c2
                rw [h3] at c3
                clear h1 h2 h3 HI HN HY HI2
                go_wp2_with fail
                refine (c1 _).mono ?_; rintro q w' ⟨rfl, rfl⟩
                go_wp2_with fail
                refine (c2 _).mono ?_; rintro q w' ⟨rfl, rfl⟩
                go_wp2_with fail
                refine (c3 _).mono ?_; rintro q w' ⟨rfl, rfl⟩
                go_wp2_with fail
                refine (c4 _ hb2).mono ?_; rintro q w' ⟨rfl, rfl⟩
                go_wp2_with fail
                go_ret
                exact ⟨ret_bool HF.out.symm, hb2⟩
    · have hn := H.out
      have hkn : k = n := by omega
      subst hkn
      have HF := Lib.hid (show Sl.good l = decide ((k : Int) = 4) from by simp only [Sl.good, ← hn, HE.out, Bool.and_true])
      clear hn
      go_wp2_with fail
      go_ret
      exact ⟨ret_bool HF.out.symm, hb⟩

end Go.Proofs.YtaggjadgbmmjoaaDoor
