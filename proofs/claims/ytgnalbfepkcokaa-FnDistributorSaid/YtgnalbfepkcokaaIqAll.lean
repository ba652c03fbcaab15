/- The interrupts that are ready for a processor, the most urgent one first, in the reference. Condition: at most 8 interrupts. -/
import Derived.Test.YtgnalbfepkcokaaIqRdy
import Derived.Test.YtgnalbfepkcokaaRegion2
import Derived.Deep.AppendLies
import Derived.Deep.RegionLaw
namespace Go.Proofs.Ytgnalbfepkcokaa
open Go.RowKit Go.ChangeShapes Go.WideShapes Go.Deep

def Iq.pre (l : List Iq) (cpu : Int) (k : Nat) : List Int := sortK (Iq.ltp l) (irqsL (Iq.rdyP l cpu) k)
theorem Iq.pre_skip {l : List Iq} {cpu : Int} {k : Nat} (h : Iq.rdyP l cpu k = false) : Iq.pre l cpu (k + 1) = Iq.pre l cpu k := by
  unfold Iq.pre; rw [irqsL_succ, h]; simp
theorem Iq.pre_ins {l : List Iq} {cpu : Int} {k : Nat} (h : Iq.rdyP l cpu k = true) : Iq.pre l cpu (k + 1) = insK (Iq.ltp l) (Iq.pre l cpu k) k := by
  unfold Iq.pre; rw [irqsL_succ, h]; simp only [if_true]; exact sortK_snoc _ _
theorem Iq.pre_len (l : List Iq) (cpu : Int) (k : Nat) : (Iq.pre l cpu k).length ≤ k := by
  unfold Iq.pre; rw [sortK_len]; exact irqsL_len _ _
theorem Iq.pre_mem {l : List Iq} {cpu : Int} {k : Nat} {x : Int} (h : x ∈ Iq.pre l cpu k) : ∃ i : Nat, i < k ∧ x = i := by
  unfold Iq.pre at h
  rw [sortK_mem, irqsL_mem] at h
  obtain ⟨i, hi, _, rfl⟩ := h
  exact ⟨i, hi, rfl⟩

set_option maxHeartbeats 4000000 in
theorem l6All_any (v : Value) (l : List Iq) (cpu : Int) (w : World) {lo hi : Nat} (h : Rd Iq.cells 5 w lo hi v l) (hh : hi ≤ w.heap.size) (h8 : l.length ≤ 8) :
    Calls Try.prog 117 #[v, .int .i64 cpu] w fun e w' => ∃ v', e = .returned v' ∧ Rd Nm.cells 1 w' w.heap.size w'.heap.size v' (Iq.all l cpu) ∧ Below w.heap.size w w' := by
  have hrd := h
  obtain ⟨A, n, c, rfl, H, hc, hm⟩ := h.form
  rw [← H.out] at h8
  clear h
  go_enter Try.func117, Try.ntmps117
  go_wp2_with fail
  have hb0 := (Below.refl w.heap.size w).alloc (Nat.le_refl _) (.cells #[] 3)
  have hf0 : Rd Nm.cells 1 (w.alloc (.cells #[] 3)) w.heap.size (w.alloc (.cells #[] 3)).heap.size (.slice (some ⟨w.heap.size, 0, none⟩) 0 0) [] := Rd.empty (by decide)
  generalize w.alloc _ = w1 at hf0 hb0 ⊢
  go_loopw [5, 6] (fun q i wr => ∃ k : Nat, k ≤ n ∧ i = .int .i64 k ∧ Below w.heap.size w wr ∧ Rd Nm.cells 1 wr w.heap.size wr.heap.size q (Iq.pre l cpu k)) (fun _ i _ => n - (intOf i).toNat)
  case atStart => exact ⟨0, Nat.zero_le _, rfl, hb0, hf0⟩
  case round =>
    clear hf0 hb0
    obtain ⟨kk, hk, rfl, hb, hf⟩ := hrel
    obtain ⟨w3, hw3⟩ : ∃ w3, w3 = wr := ⟨_, rfl⟩
    subst hw3
    have hbs := hb.size
    by_cases hlt : kk < n
    · have hd0 : decide ((kk : Int) < (n : Int)) = true := decide_eq_true (by omega)
      obtain ⟨b0, off0, t, rfl, ht, _, hbl, f0, f1, f2, f3, f4⟩ := Iq.get hrd hlt hb hh
      have hP : Iq.rdyP l cpu kk = (t.rdy && t.target == cpu) := by rw [Iq.rdyP, Iq.nth_at ht.out]
      have hbw : b0 < w3.heap.size := by omega
      have c1 := fun W => l6Ready_any t W
      unfold Iq.val at c1
      cases hq : t.rdy
      · rw [hq] at c1 hP
        have HF := Lib.hid (Iq.pre_skip (show Iq.rdyP l cpu kk = false from by rw [hP]; rfl))
        clear hq hP
        go_wp2_with fail
        refine (c1 _).mono ?_; rintro e w2 ⟨rfl, b2⟩
        go_wp2_with fail
        go_roundw
        case rel => exact ⟨kk + 1, by omega, by go_num, hb.trans (b2.mono hb.size), by rw [HF.out]; exact (hf.below b2 (Nat.le_refl _)).mono (Nat.le_refl _) b2.size⟩
        case measure => simp [intOf]; omega
      · by_cases hq2 : t.target = cpu
        · rw [hq] at c1 hP
          have HF := Lib.hid (Iq.pre_ins (show Iq.rdyP l cpu kk = true from by rw [hP]; simp [hq2]))
          have HM := Lib.hid (fun (x : Int) (hx : x ∈ Iq.pre l cpu kk) => Iq.pre_mem hx)
          have hsl := Iq.pre_len l cpu kk
          simp only [hq2] at c1
          rw [hq2] at f4
          clear hq hP hq2
          go_wp2_with fail
          refine (c1 _).mono ?_; rintro e w2 ⟨rfl, b2⟩
          replace f0 := (b2.cell (p := ⟨b0, off0 + kk * 5, none⟩) hbw).trans f0
          replace f1 := (b2.cell (p := ⟨b0, off0 + kk * 5 + 1, none⟩) hbw).trans f1
          replace f2 := (b2.cell (p := ⟨b0, off0 + kk * 5 + 2, none⟩) hbw).trans f2
          replace f3 := (b2.cell (p := ⟨b0, off0 + kk * 5 + 3, none⟩) hbw).trans f3
          replace f4 := (b2.cell (p := ⟨b0, off0 + kk * 5 + 4, none⟩) hbw).trans f4
          replace hf := (hf.below b2 (Nat.le_refl _)).mono (Nat.le_refl _) b2.size
          replace hb := hb.trans (b2.mono hb.size)
          clear b2 c1 hbw hbs
          generalize Iq.pre l cpu kk = S at *
          have hv := hf.form
          obtain ⟨A5, m, c5, rfl, HL, hc5, hm5⟩ := hv
          have hS := HL.out
          have hm8 : m ≤ 8 := by omega
          clear hS
          go_wp2_with fail
          go_loopw [7] (fun q wr => ∃ k : Nat, q = .int .i64 k ∧ k ≤ m ∧ Below w2.heap.size w2 wr ∧ Hid (∀ (j : Nat) (y : Int), k ≤ j → S[j]? = some y → Iq.ltp l kk y = true)) (fun q _ => (intOf q).toNat)
          case atStart => exact ⟨m, rfl, Nat.le_refl _, Below.refl _ _, Lib.hid (fun j y hj hy => by have := HL.out; rw [List.getElem?_eq_none (by omega)] at hy; cases hy)⟩
          case round =>
            obtain ⟨k, rfl, hkm, hb2, HJ⟩ := hrel
            have hb3 := hb.trans (hb2.mono hb.size)
            have hf3 := hf.below hb2 (Nat.le_refl _)
            have hz3 := hb3.size
            obtain ⟨_, _, t', e, ht', _, _, k0, k1, k2, k3, k4⟩ := Iq.get hrd hlt hb3 hh
            injection e with e
            injection e with e1 e2
            subst e1; subst e2
            obtain rfl := Option.some.inj (ht.out.symm.trans ht'.out)
            clear hb hf f0 f1 f2 f3 f4 k0 k1 k2 k4
            replace hb := hb3
            replace hf := hf3.mono (Nat.le_refl _) hb2.size
            have hbI := hb2
            clear hb2 hb3 hf3
            by_cases hk0 : k = 0
            · have HQ := Lib.hid (show bk (Iq.ltp l) kk S = k from bk_eq _ _ _ (by rw [← HL.out]; exact hkm) HJ.out (fun j y h => by omega))
              have hd : decide ((0 : Int) < (k : Int)) = false := by subst hk0; simp
              have hd' : decide (0 < k) = false := by subst hk0; simp
              clear hk0
              go_wp2_with fail
              go_quiet (fail)
              go_wp2_with fail
              have hbn := below_drewN hb nq
              have hfn : Rd Nm.cells 1 (wr.drewN nq) w.heap.size (wr.drewN nq).heap.size (.slice A5 m c5) S := hf.drewN nq
              generalize wr.drewN nq = wr at hbn hfn ⊢
              have hkc : k ≤ c5 := by omega
              have hdrd := hfn.drop1 hkm
              refine wp_region_any (by kernel_rfl) ?_
              refine wpAny_take (i := 1) (v := .slice A5 m c5) rfl (by kernel_rfl) (by kernel_rfl) (by kernel_rfl) (fun _ _ _ h => h) (Or.inl ⟨by rfl, by intro wr; go_simp⟩) ?_
              refine wpAny_take (i := 2) (v := .int .i64 k) rfl (by kernel_rfl) (by kernel_rfl) (by kernel_rfl) (fun _ _ _ h => h) (Or.inl ⟨by rfl, by intro wr; go_simp⟩) ?_
              refine wpAny_take (i := 3) (v := .slice A5 k c5) rfl (by kernel_rfl) (by kernel_rfl) (by kernel_rfl) (fun _ _ _ h => h) (Or.inl ⟨by rfl, by intro wr; go_simp⟩) ?_
              refine wpAny_take (i := 5) (v := .int .i64 (kk : Int)) rfl (by kernel_rfl) (by kernel_rfl) (by kernel_rfl) (fun _ _ _ h => h) (Or.inl ⟨by rfl, by intro wr; go_simp⟩) ?_
              refine wpAny_take (i := 8) (v := .slice A5 m c5) rfl (by kernel_rfl) (by kernel_rfl) (by kernel_rfl) (fun _ _ _ h => h) (Or.inl ⟨by rfl, by intro wr; go_simp⟩) ?_
              refine wpAny_take (i := 9) (v := .int .i64 k) rfl (by kernel_rfl) (by kernel_rfl) (by kernel_rfl) (fun _ _ _ h => h) (Or.inl ⟨by rfl, by intro wr; go_simp⟩) ?_
              refine wpAny_take (i := 10) (v := .slice (if c5 = k then A5 else Option.map (fun z => z.add k) A5) (m - k) (c5 - k)) rfl (by kernel_rfl) (by kernel_rfl) (by kernel_rfl) (fun _ _ _ h => h) (Or.inl ⟨by rfl, by intro wr; go_simp⟩) ?_
              generalize (if c5 = k then A5 else Option.map (fun z => z.add k) A5) = B0 at hdrd ⊢
              refine wpAny_ready (rs := [0, 6]) (by kernel_rfl) (by decide) ?_
              have hm63 : m ≤ maxLen := by unfold maxLen; omega
              obtain ⟨i0, hi0, hz0, hz1, hz2⟩ := info_parts Nm.info
              have hkrd := hfn.take_ hkm
              have hx1 : ∀ (j : Nat) (u : Value), (Nm.cells (kk : Int))[j]? = some u → #[Value.int .i64 (kk : Int)][j]? = some u := fun j u hu => by simpa [Nm.cells] using hu
              refine AllReady.cons rfl (fun K hK => ?_) (AllReady.cons rfl (fun K hK => ?_) AllReady.nil)
              · go_simp
                refine hK _ _ ?_
                have bA : Below wr.heap.size wr (wr.alloc (.cells #[] 3)).drew := ((Below.refl wr.heap.size wr).alloc (Nat.le_refl _) _).drew
                refine wpAny_ready (rs := [4, 6]) (by kernel_rfl) (by decide) ?_
                refine AllReady.cons rfl (fun K2 hK2 => ?_) (AllReady.cons rfl (fun K2 hK2 => ?_) AllReady.nil)
                · refine step_app_rd rfl _ _ 47 rfl wr.heap.size 3 i0 _ 1 _ Try.underlying47 hi0 hz0 hz1 hz2 rfl (by omega) Nm.cells_len Nm.one (.slice (some ⟨wr.heap.size, 0, none⟩) 0 0) 0 [] rfl (own_empty wr (base := wr.heap.size) 3 1 (Nat.le_refl _)) (lo := w.heap.size) (hi' := wr.heap.size) (A := A5) (m := k) (c := c5) (l := S.take k) rfl (hkrd.below bA (Nat.le_refl _)) (by unfold maxLen; omega) (by omega) (by simp) ?_
                  intro v4 w4 h4 g4
                  have b4 : Below wr.heap.size wr w4 := bA.grown g4 bA.size (by intro j hj; simp [Value.ownBlock] at hj; omega)
                  refine hK2 _ _ ?_
                  have b6 : Below wr.heap.size wr (w4.alloc (.cells #[.int .i64 (kk : Int)] 3)) := b4.alloc b4.size _
                  have c6 : ∀ (j : Nat) (u : Value), (Nm.cells (kk : Int))[j]? = some u → (w4.alloc (.cells #[.int .i64 (kk : Int)] 3)).cell? ⟨w4.heap.size, j, none⟩ = some u := fun j u hu => cell_new w4 _ _ rfl (hx1 j u hu)
                  have r6 := h4.alloc (.cells #[.int .i64 (kk : Int)] 3)
                  clear h4 b4
                  refine wpAny_ready (rs := [6]) (by kernel_rfl) (by decide) ?_
                  refine AllReady.cons rfl (fun K3 hK3 => ?_) AllReady.nil
                  go_simp
                  refine hK3 _ _ ?_
                  refine wpAny_ready (rs := [7]) (by kernel_rfl) (by decide) ?_
                  refine AllReady.cons rfl (fun K7 hK7 => ?_) AllReady.nil
                  refine step_app_rd rfl _ _ 47 rfl wr.heap.size 3 i0 _ 1 _ Try.underlying47 hi0 hz0 hz1 hz2 rfl (by omega) Nm.cells_len Nm.one v4 _ _ rfl r6 (A := some ⟨_, 0, none⟩) (m := 1) (c := 1) (l := [(kk : Int)]) rfl (rd_one c6) (by unfold maxLen; omega) (by omega) b6.size ?_
                  intro v7 w7 h7 g7
                  refine hK7 _ _ ?_
                  have b7 : Below wr.heap.size wr w7 := b6.grown g7 b6.size (own_ge r6)
                  clear g7 r6 c6 b6
                  refine wpAny_ready (rs := [11]) (by kernel_rfl) (by decide) ?_
                  refine AllReady.cons rfl (fun K11 hK11 => ?_) AllReady.nil
                  refine step_app_rd rfl _ _ 47 rfl wr.heap.size 3 i0 _ 1 _ Try.underlying47 hi0 hz0 hz1 hz2 rfl (by omega) Nm.cells_len Nm.one v7 _ _ rfl h7 (A := _) (m := m - k) (c := c5 - k) (l := S.drop k) rfl (hdrd.below b7 (Nat.le_refl _)) (by unfold maxLen; omega) (by omega) b7.size ?_
                  intro v8 w8 h8 g8
                  refine hK11 _ _ ?_
                  have b8 : Below wr.heap.size wr w8 := b7.grown g8 b7.size (own_ge h7)
                  refine wpAny_ready (rs := [12]) (by kernel_rfl) (by decide) ?_
                  refine AllReady.cons rfl (fun K12 hK12 => ?_) AllReady.nil
                  go_simp
                  refine hK12 _ _ ?_
                  refine ⟨by kernel_rfl, ?_⟩
                  go_wp2_with fail
                  go_roundw
                  case rel => exact ⟨kk + 1, by omega, by go_num, hbn.trans (b8.mono hbn.size), by rw [HF.out]; exact (Ow.of_own Nm.cells_len h8 (l := insK (Iq.ltp l) S kk) (by simp [insK, HQ.out]) (by rw [insK_len]; have := HL.out; omega)).rd.mono hbn.size (Nat.le_refl _)⟩
                  case measure => simp [intOf]; omega
                · go_simp
                  refine hK2 _ _ ?_
                  have bB : Below wr.heap.size wr ((wr.alloc (.cells #[] 3)).drew.alloc (.cells #[.int .i64 (kk : Int)] 3)) := bA.alloc bA.size _
                  have cB : ∀ (j : Nat) (u : Value), (Nm.cells (kk : Int))[j]? = some u → ((wr.alloc (.cells #[] 3)).drew.alloc (.cells #[.int .i64 (kk : Int)] 3)).cell? ⟨wr.heap.size + 1, j, none⟩ = some u := fun j u hu => cell_new _ _ _ (by simp) (hx1 j u hu)
                  refine wpAny_ready (rs := [4]) (by kernel_rfl) (by decide) ?_
                  refine AllReady.cons rfl (fun K3 hK3 => ?_) AllReady.nil
                  refine step_app_rd rfl _ _ 47 rfl wr.heap.size 3 i0 _ 1 _ Try.underlying47 hi0 hz0 hz1 hz2 rfl (by omega) Nm.cells_len Nm.one (.slice (some ⟨wr.heap.size, 0, none⟩) 0 0) 0 [] rfl ((own_empty wr (base := wr.heap.size) 3 1 (Nat.le_refl _)).alloc (.cells #[.int .i64 (kk : Int)] 3)) (lo := w.heap.size) (hi' := wr.heap.size) (A := A5) (m := k) (c := c5) (l := S.take k) rfl (hkrd.below bB (Nat.le_refl _)) (by unfold maxLen; omega) (by omega) (by simp; omega) ?_
                  intro v4 w4 h4 g4
                  have b4 : Below wr.heap.size wr w4 := bB.grown g4 bB.size (by intro j hj; simp [Value.ownBlock] at hj; omega)
                  refine hK3 _ _ ?_
                  have b6 := b4
                  have c6 : ∀ (j : Nat) (u : Value), (Nm.cells (kk : Int))[j]? = some u → w4.cell? ⟨wr.heap.size + 1, j, none⟩ = some u := fun j u hu => g4.cell (cB j u hu) (by simp [Value.ownBlock])
                  have r6 := h4
                  clear h4 b4
                  refine wpAny_ready (rs := [7]) (by kernel_rfl) (by decide) ?_
                  refine AllReady.cons rfl (fun K7 hK7 => ?_) AllReady.nil
                  refine step_app_rd rfl _ _ 47 rfl wr.heap.size 3 i0 _ 1 _ Try.underlying47 hi0 hz0 hz1 hz2 rfl (by omega) Nm.cells_len Nm.one v4 _ _ rfl r6 (A := some ⟨_, 0, none⟩) (m := 1) (c := 1) (l := [(kk : Int)]) rfl (rd_one c6) (by unfold maxLen; omega) (by omega) b6.size ?_
                  intro v7 w7 h7 g7
                  refine hK7 _ _ ?_
                  have b7 : Below wr.heap.size wr w7 := b6.grown g7 b6.size (own_ge r6)
                  clear g7 r6 c6 b6
                  refine wpAny_ready (rs := [11]) (by kernel_rfl) (by decide) ?_
                  refine AllReady.cons rfl (fun K11 hK11 => ?_) AllReady.nil
                  refine step_app_rd rfl _ _ 47 rfl wr.heap.size 3 i0 _ 1 _ Try.underlying47 hi0 hz0 hz1 hz2 rfl (by omega) Nm.cells_len Nm.one v7 _ _ rfl h7 (A := _) (m := m - k) (c := c5 - k) (l := S.drop k) rfl (hdrd.below b7 (Nat.le_refl _)) (by unfold maxLen; omega) (by omega) b7.size ?_
                  intro v8 w8 h8 g8
                  refine hK11 _ _ ?_
                  have b8 : Below wr.heap.size wr w8 := b7.grown g8 b7.size (own_ge h7)
                  refine wpAny_ready (rs := [12]) (by kernel_rfl) (by decide) ?_
                  refine AllReady.cons rfl (fun K12 hK12 => ?_) AllReady.nil
                  go_simp
                  refine hK12 _ _ ?_
                  refine ⟨by kernel_rfl, ?_⟩
                  go_wp2_with fail
                  go_roundw
                  case rel => exact ⟨kk + 1, by omega, by go_num, hbn.trans (b8.mono hbn.size), by rw [HF.out]; exact (Ow.of_own Nm.cells_len h8 (l := insK (Iq.ltp l) S kk) (by simp [insK, HQ.out]) (by rw [insK_len]; have := HL.out; omega)).rd.mono hbn.size (Nat.le_refl _)⟩
                  case measure => simp [intOf]; omega
              · go_simp
                refine hK _ _ ?_
                have bC1 : Below wr.heap.size wr (wr.alloc (.cells #[.int .i64 (kk : Int)] 3)).drew := ((Below.refl wr.heap.size wr).alloc (Nat.le_refl _) _).drew
                have cC1 : ∀ (j : Nat) (u : Value), (Nm.cells (kk : Int))[j]? = some u → (wr.alloc (.cells #[.int .i64 (kk : Int)] 3)).drew.cell? ⟨wr.heap.size, j, none⟩ = some u := fun j u hu => cell_new wr _ _ rfl (hx1 j u hu)
                refine wpAny_ready (rs := [0]) (by kernel_rfl) (by decide) ?_
                refine AllReady.cons rfl (fun K2 hK2 => ?_) AllReady.nil
                go_simp
                refine hK2 _ _ ?_
                have bC := bC1.alloc bC1.size (.cells #[] 3)
                have cC : ∀ (j : Nat) (u : Value), (Nm.cells (kk : Int))[j]? = some u → ((wr.alloc (.cells #[.int .i64 (kk : Int)] 3)).drew.alloc (.cells #[] 3)).cell? ⟨wr.heap.size, j, none⟩ = some u := fun j u hu => by rw [World.cell?_alloc_lt _ _ _ (by simp)]; exact cC1 j u hu
                refine wpAny_ready (rs := [4]) (by kernel_rfl) (by decide) ?_
                refine AllReady.cons rfl (fun K3 hK3 => ?_) AllReady.nil
                refine step_app_rd rfl _ _ 47 rfl wr.heap.size 3 i0 _ 1 _ Try.underlying47 hi0 hz0 hz1 hz2 rfl (by omega) Nm.cells_len Nm.one (.slice (some ⟨wr.heap.size + 1, 0, none⟩) 0 0) 0 [] rfl (own_empty_at (wr.alloc (.cells #[.int .i64 (kk : Int)] 3)) (base := wr.heap.size) (g := wr.heap.size + 1) 3 1 (by simp) (by simp)) (lo := w.heap.size) (hi' := wr.heap.size) (A := A5) (m := k) (c := c5) (l := S.take k) rfl (hkrd.below bC (Nat.le_refl _)) (by unfold maxLen; omega) (by omega) (by simp; omega) ?_
                intro v4 w4 h4 g4
                have b4 : Below wr.heap.size wr w4 := bC.grown g4 bC.size (by intro j hj; simp [Value.ownBlock] at hj; omega)
                refine hK3 _ _ ?_
                have b6 := b4
                have c6 : ∀ (j : Nat) (u : Value), (Nm.cells (kk : Int))[j]? = some u → w4.cell? ⟨wr.heap.size, j, none⟩ = some u := fun j u hu => g4.cell (cC j u hu) (by simp [Value.ownBlock])
                have r6 := h4
                clear h4 b4
                refine wpAny_ready (rs := [7]) (by kernel_rfl) (by decide) ?_
                refine AllReady.cons rfl (fun K7 hK7 => ?_) AllReady.nil
                refine step_app_rd rfl _ _ 47 rfl wr.heap.size 3 i0 _ 1 _ Try.underlying47 hi0 hz0 hz1 hz2 rfl (by omega) Nm.cells_len Nm.one v4 _ _ rfl r6 (A := some ⟨_, 0, none⟩) (m := 1) (c := 1) (l := [(kk : Int)]) rfl (rd_one c6) (by unfold maxLen; omega) (by omega) b6.size ?_
                intro v7 w7 h7 g7
                refine hK7 _ _ ?_
                have b7 : Below wr.heap.size wr w7 := b6.grown g7 b6.size (own_ge r6)
                clear g7 r6 c6 b6
                refine wpAny_ready (rs := [11]) (by kernel_rfl) (by decide) ?_
                refine AllReady.cons rfl (fun K11 hK11 => ?_) AllReady.nil
                refine step_app_rd rfl _ _ 47 rfl wr.heap.size 3 i0 _ 1 _ Try.underlying47 hi0 hz0 hz1 hz2 rfl (by omega) Nm.cells_len Nm.one v7 _ _ rfl h7 (A := _) (m := m - k) (c := c5 - k) (l := S.drop k) rfl (hdrd.below b7 (Nat.le_refl _)) (by unfold maxLen; omega) (by omega) b7.size ?_
                intro v8 w8 h8 g8
                refine hK11 _ _ ?_
                have b8 : Below wr.heap.size wr w8 := b7.grown g8 b7.size (own_ge h7)
                refine wpAny_ready (rs := [12]) (by kernel_rfl) (by decide) ?_
                refine AllReady.cons rfl (fun K12 hK12 => ?_) AllReady.nil
                go_simp
                refine hK12 _ _ ?_
                refine ⟨by kernel_rfl, ?_⟩
                go_wp2_with fail
                go_roundw
                case rel => exact ⟨kk + 1, by omega, by go_num, hbn.trans (b8.mono hbn.size), by rw [HF.out]; exact (Ow.of_own Nm.cells_len h8 (l := insK (Iq.ltp l) S kk) (by simp [insK, HQ.out]) (by rw [insK_len]; have := HL.out; omega)).rd.mono hbn.size (Nat.le_refl _)⟩
                case measure => simp [intOf]; omega
            · obtain ⟨k', rfl⟩ : ∃ k', k = k' + 1 := ⟨k - 1, by omega⟩
              clear hk0
              obtain ⟨b, off, y, rfl, hy, _, hbl5, g0⟩ := Nm.get hf (k := k') (by omega) (Below.refl wr.heap.size wr) (Nat.le_refl _)
              obtain ⟨iy, hiy, rfl⟩ := HM.out y (List.mem_of_getElem? hy.out)
              obtain ⟨_, _, u, e, hu, _, _, p0, p1, p2, p3, p4⟩ := Iq.get hrd (k := iy) (by omega) hb hh
              injection e with e
              injection e with e1 e2
              subst e1; subst e2
              clear p0 p1 p2 p4
              have hlt3 : Iq.ltp l kk iy = decide (t.prio < u.prio) := by rw [Iq.ltp, Iq.prL_at ht.out, Iq.prL_at hu.out]
              have hd : decide ((0 : Int) < ((k' + 1 : Nat) : Int)) = true := by simp
              have hin : (iy : Int) < (n : Int) := by omega
              have hik : (k' : Int) < (m : Int) := by omega
              by_cases hp : t.prio < u.prio
              · have HJ2 := Lib.hid (show ∀ (j : Nat) (y : Int), k' ≤ j → S[j]? = some y → Iq.ltp l kk y = true from fun j y hj hy2 => by
                  by_cases hjm : j = k'
                  · subst hjm; rw [hy.out] at hy2; obtain rfl := Option.some.inj hy2; rw [hlt3]; exact decide_eq_true hp
                  · exact HJ.out j y (by omega) hy2)
                have hd2 : decide (t.prio < u.prio) = true := decide_eq_true hp
                clear hlt3 HJ
                go_wp2_with fail
                go_quiet (fail)
                go_wp2_with fail
                go_roundw
                case rel => exact ⟨k', by go_num, by omega, below_drewN hbI _, HJ2⟩
                case measure => simp [intOf]
              · have hp2 : Iq.ltp l kk iy = false := by rw [hlt3]; exact decide_eq_false hp
                have HQ := Lib.hid (show bk (Iq.ltp l) kk S = k' + 1 from bk_eq _ _ _ (by rw [← HL.out]; exact hkm) HJ.out (fun j y hj hy2 => by
                  obtain rfl : j = k' := by omega
                  rw [hy.out] at hy2
                  obtain rfl := Option.some.inj hy2
                  exact hp2))
                have hd2 : decide (t.prio < u.prio) = false := decide_eq_false hp
                clear hlt3 hp2 HJ
                go_wp2_with fail
                go_quiet (fail)
                go_wp2_with fail
                have hbn := below_drewN hb nq
                have hfn : Rd Nm.cells 1 (wr.drewN nq) w.heap.size (wr.drewN nq).heap.size (.slice (some ⟨b, off, none⟩) m c5) S := hf.drewN nq
                clear hb hf hbI g0 p3 k3 hd hd2
                generalize wr.drewN nq = wr at hbn hfn ⊢
                obtain ⟨kq, hK⟩ : ∃ kq : Nat, (kq : Int) = (k' : Int) + 1 := ⟨k' + 1, by simp⟩
                rw [← hK]
                have hkK : kq = k' + 1 := by omega
                rw [← hkK] at HQ
                have hkm : kq ≤ m := by omega
                have hkc : kq ≤ c5 := by omega
                clear hK hkK hik hp
                have hdrd := hfn.drop1p hkm
                refine wp_region_any (by kernel_rfl) ?_
                refine wpAny_take (i := 1) (v := .slice (some ⟨b, off, none⟩) m c5) rfl (by kernel_rfl) (by kernel_rfl) (by kernel_rfl) (fun _ _ _ h => h) (Or.inl ⟨by rfl, by intro wr; go_simp⟩) ?_
                refine wpAny_take (i := 2) (v := .int .i64 kq) rfl (by kernel_rfl) (by kernel_rfl) (by kernel_rfl) (fun _ _ _ h => h) (Or.inl ⟨by rfl, by intro wr; go_simp⟩) ?_
                refine wpAny_take (i := 3) (v := .slice (some ⟨b, off, none⟩) kq c5) rfl (by kernel_rfl) (by kernel_rfl) (by kernel_rfl) (fun _ _ _ h => h) (Or.inl ⟨by rfl, by intro wr; go_simp⟩) ?_
                refine wpAny_take (i := 5) (v := .int .i64 (kk : Int)) rfl (by kernel_rfl) (by kernel_rfl) (by kernel_rfl) (fun _ _ _ h => h) (Or.inl ⟨by rfl, by intro wr; go_simp⟩) ?_
                refine wpAny_take (i := 8) (v := .slice (some ⟨b, off, none⟩) m c5) rfl (by kernel_rfl) (by kernel_rfl) (by kernel_rfl) (fun _ _ _ h => h) (Or.inl ⟨by rfl, by intro wr; go_simp⟩) ?_
                refine wpAny_take (i := 9) (v := .int .i64 kq) rfl (by kernel_rfl) (by kernel_rfl) (by kernel_rfl) (fun _ _ _ h => h) (Or.inl ⟨by rfl, by intro wr; go_simp⟩) ?_
                refine wpAny_take (i := 10) (v := .slice (if c5 = kq then (some ⟨b, off, none⟩ : Option Addr) else some ⟨b, off + kq, none⟩) (m - kq) (c5 - kq)) rfl (by kernel_rfl) (by kernel_rfl) (by kernel_rfl) (fun _ _ _ h => h) (Or.inl ⟨by rfl, by intro wr; go_simp⟩) ?_
                generalize (if c5 = kq then (some ⟨b, off, none⟩ : Option Addr) else some ⟨b, off + kq, none⟩) = B0 at hdrd ⊢
                refine wpAny_ready (rs := [0, 6]) (by kernel_rfl) (by decide) ?_
                have hm63 : m ≤ maxLen := by unfold maxLen; omega
                obtain ⟨i0, hi0, hz0, hz1, hz2⟩ := info_parts Nm.info
                have hkrd := hfn.take_ hkm
                have hx1 : ∀ (j : Nat) (u : Value), (Nm.cells (kk : Int))[j]? = some u → #[Value.int .i64 (kk : Int)][j]? = some u := fun j u hu => by simpa [Nm.cells] using hu
                refine AllReady.cons rfl (fun K hK => ?_) (AllReady.cons rfl (fun K hK => ?_) AllReady.nil)
                · go_simp
                  refine hK _ _ ?_
                  have bA : Below wr.heap.size wr (wr.alloc (.cells #[] 3)).drew := ((Below.refl wr.heap.size wr).alloc (Nat.le_refl _) _).drew
                  refine wpAny_ready (rs := [4, 6]) (by kernel_rfl) (by decide) ?_
                  refine AllReady.cons rfl (fun K2 hK2 => ?_) (AllReady.cons rfl (fun K2 hK2 => ?_) AllReady.nil)
                  · refine step_app_rd rfl _ _ 47 rfl wr.heap.size 3 i0 _ 1 _ Try.underlying47 hi0 hz0 hz1 hz2 rfl (by omega) Nm.cells_len Nm.one (.slice (some ⟨wr.heap.size, 0, none⟩) 0 0) 0 [] rfl (own_empty wr (base := wr.heap.size) 3 1 (Nat.le_refl _)) (lo := w.heap.size) (hi' := wr.heap.size) (A := some ⟨b, off, none⟩) (m := kq) (c := c5) (l := S.take kq) rfl (hkrd.below bA (Nat.le_refl _)) (by unfold maxLen; omega) (by omega) (by simp) ?_
                    intro v4 w4 h4 g4
                    have b4 : Below wr.heap.size wr w4 := bA.grown g4 bA.size (by intro j hj; simp [Value.ownBlock] at hj; omega)
                    refine hK2 _ _ ?_
                    have b6 : Below wr.heap.size wr (w4.alloc (.cells #[.int .i64 (kk : Int)] 3)) := b4.alloc b4.size _
                    have c6 : ∀ (j : Nat) (u : Value), (Nm.cells (kk : Int))[j]? = some u → (w4.alloc (.cells #[.int .i64 (kk : Int)] 3)).cell? ⟨w4.heap.size, j, none⟩ = some u := fun j u hu => cell_new w4 _ _ rfl (hx1 j u hu)
                    have r6 := h4.alloc (.cells #[.int .i64 (kk : Int)] 3)
                    clear h4 b4
                    refine wpAny_ready (rs := [6]) (by kernel_rfl) (by decide) ?_
                    refine AllReady.cons rfl (fun K3 hK3 => ?_) AllReady.nil
                    go_simp
                    refine hK3 _ _ ?_
                    refine wpAny_ready (rs := [7]) (by kernel_rfl) (by decide) ?_
                    refine AllReady.cons rfl (fun K7 hK7 => ?_) AllReady.nil
                    refine step_app_rd rfl _ _ 47 rfl wr.heap.size 3 i0 _ 1 _ Try.underlying47 hi0 hz0 hz1 hz2 rfl (by omega) Nm.cells_len Nm.one v4 _ _ rfl r6 (A := some ⟨_, 0, none⟩) (m := 1) (c := 1) (l := [(kk : Int)]) rfl (rd_one c6) (by unfold maxLen; omega) (by omega) b6.size ?_
                    intro v7 w7 h7 g7
                    refine hK7 _ _ ?_
                    have b7 : Below wr.heap.size wr w7 := b6.grown g7 b6.size (own_ge r6)
                    clear g7 r6 c6 b6
                    refine wpAny_ready (rs := [11]) (by kernel_rfl) (by decide) ?_
                    refine AllReady.cons rfl (fun K11 hK11 => ?_) AllReady.nil
                    refine step_app_rd rfl _ _ 47 rfl wr.heap.size 3 i0 _ 1 _ Try.underlying47 hi0 hz0 hz1 hz2 rfl (by omega) Nm.cells_len Nm.one v7 _ _ rfl h7 (A := _) (m := m - kq) (c := c5 - kq) (l := S.drop kq) rfl (hdrd.below b7 (Nat.le_refl _)) (by unfold maxLen; omega) (by omega) b7.size ?_
                    intro v8 w8 h8 g8
                    refine hK11 _ _ ?_
                    have b8 : Below wr.heap.size wr w8 := b7.grown g8 b7.size (own_ge h7)
                    refine wpAny_ready (rs := [12]) (by kernel_rfl) (by decide) ?_
                    refine AllReady.cons rfl (fun K12 hK12 => ?_) AllReady.nil
                    go_simp
                    refine hK12 _ _ ?_
                    refine ⟨by kernel_rfl, ?_⟩
                    go_wp2_with fail
                    go_roundw
                    case rel => exact ⟨kk + 1, by omega, by go_num, hbn.trans (b8.mono hbn.size), by rw [HF.out]; exact (Ow.of_own Nm.cells_len h8 (l := insK (Iq.ltp l) S kk) (by simp [insK, HQ.out]) (by rw [insK_len]; have := HL.out; omega)).rd.mono hbn.size (Nat.le_refl _)⟩
                    case measure => simp [intOf]; omega
                  · go_simp
                    refine hK2 _ _ ?_
                    have bB : Below wr.heap.size wr ((wr.alloc (.cells #[] 3)).drew.alloc (.cells #[.int .i64 (kk : Int)] 3)) := bA.alloc bA.size _
                    have cB : ∀ (j : Nat) (u : Value), (Nm.cells (kk : Int))[j]? = some u → ((wr.alloc (.cells #[] 3)).drew.alloc (.cells #[.int .i64 (kk : Int)] 3)).cell? ⟨wr.heap.size + 1, j, none⟩ = some u := fun j u hu => cell_new _ _ _ (by simp) (hx1 j u hu)
                    refine wpAny_ready (rs := [4]) (by kernel_rfl) (by decide) ?_
                    refine AllReady.cons rfl (fun K3 hK3 => ?_) AllReady.nil
                    refine step_app_rd rfl _ _ 47 rfl wr.heap.size 3 i0 _ 1 _ Try.underlying47 hi0 hz0 hz1 hz2 rfl (by omega) Nm.cells_len Nm.one (.slice (some ⟨wr.heap.size, 0, none⟩) 0 0) 0 [] rfl ((own_empty wr (base := wr.heap.size) 3 1 (Nat.le_refl _)).alloc (.cells #[.int .i64 (kk : Int)] 3)) (lo := w.heap.size) (hi' := wr.heap.size) (A := some ⟨b, off, none⟩) (m := kq) (c := c5) (l := S.take kq) rfl (hkrd.below bB (Nat.le_refl _)) (by unfold maxLen; omega) (by omega) (by simp; omega) ?_
                    intro v4 w4 h4 g4
                    have b4 : Below wr.heap.size wr w4 := bB.grown g4 bB.size (by intro j hj; simp [Value.ownBlock] at hj; omega)
                    refine hK3 _ _ ?_
                    have b6 := b4
                    have c6 : ∀ (j : Nat) (u : Value), (Nm.cells (kk : Int))[j]? = some u → w4.cell? ⟨wr.heap.size + 1, j, none⟩ = some u := fun j u hu => g4.cell (cB j u hu) (by simp [Value.ownBlock])
                    have r6 := h4
                    clear h4 b4
                    refine wpAny_ready (rs := [7]) (by kernel_rfl) (by decide) ?_
                    refine AllReady.cons rfl (fun K7 hK7 => ?_) AllReady.nil
                    refine step_app_rd rfl _ _ 47 rfl wr.heap.size 3 i0 _ 1 _ Try.underlying47 hi0 hz0 hz1 hz2 rfl (by omega) Nm.cells_len Nm.one v4 _ _ rfl r6 (A := some ⟨_, 0, none⟩) (m := 1) (c := 1) (l := [(kk : Int)]) rfl (rd_one c6) (by unfold maxLen; omega) (by omega) b6.size ?_
                    intro v7 w7 h7 g7
                    refine hK7 _ _ ?_
                    have b7 : Below wr.heap.size wr w7 := b6.grown g7 b6.size (own_ge r6)
                    clear g7 r6 c6 b6
                    refine wpAny_ready (rs := [11]) (by kernel_rfl) (by decide) ?_
                    refine AllReady.cons rfl (fun K11 hK11 => ?_) AllReady.nil
                    refine step_app_rd rfl _ _ 47 rfl wr.heap.size 3 i0 _ 1 _ Try.underlying47 hi0 hz0 hz1 hz2 rfl (by omega) Nm.cells_len Nm.one v7 _ _ rfl h7 (A := _) (m := m - kq) (c := c5 - kq) (l := S.drop kq) rfl (hdrd.below b7 (Nat.le_refl _)) (by unfold maxLen; omega) (by omega) b7.size ?_
                    intro v8 w8 h8 g8
                    refine hK11 _ _ ?_
                    have b8 : Below wr.heap.size wr w8 := b7.grown g8 b7.size (own_ge h7)
                    refine wpAny_ready (rs := [12]) (by kernel_rfl) (by decide) ?_
                    refine AllReady.cons rfl (fun K12 hK12 => ?_) AllReady.nil
                    go_simp
                    refine hK12 _ _ ?_
                    refine ⟨by kernel_rfl, ?_⟩
                    go_wp2_with fail
                    go_roundw
                    case rel => exact ⟨kk + 1, by omega, by go_num, hbn.trans (b8.mono hbn.size), by rw [HF.out]; exact (Ow.of_own Nm.cells_len h8 (l := insK (Iq.ltp l) S kk) (by simp [insK, HQ.out]) (by rw [insK_len]; have := HL.out; omega)).rd.mono hbn.size (Nat.le_refl _)⟩
                    case measure => simp [intOf]; omega
                · go_simp
                  refine hK _ _ ?_
                  have bC1 : Below wr.heap.size wr (wr.alloc (.cells #[.int .i64 (kk : Int)] 3)).drew := ((Below.refl wr.heap.size wr).alloc (Nat.le_refl _) _).drew
                  have cC1 : ∀ (j : Nat) (u : Value), (Nm.cells (kk : Int))[j]? = some u → (wr.alloc (.cells #[.int .i64 (kk : Int)] 3)).drew.cell? ⟨wr.heap.size, j, none⟩ = some u := fun j u hu => cell_new wr _ _ rfl (hx1 j u hu)
                  refine wpAny_ready (rs := [0]) (by kernel_rfl) (by decide) ?_
                  refine AllReady.cons rfl (fun K2 hK2 => ?_) AllReady.nil
                  go_simp
                  refine hK2 _ _ ?_
                  have bC := bC1.alloc bC1.size (.cells #[] 3)
                  have cC : ∀ (j : Nat) (u : Value), (Nm.cells (kk : Int))[j]? = some u → ((wr.alloc (.cells #[.int .i64 (kk : Int)] 3)).drew.alloc (.cells #[] 3)).cell? ⟨wr.heap.size, j, none⟩ = some u := fun j u hu => by rw [World.cell?_alloc_lt _ _ _ (by simp)]; exact cC1 j u hu
                  refine wpAny_ready (rs := [4]) (by kernel_rfl) (by decide) ?_
                  refine AllReady.cons rfl (fun K3 hK3 => ?_) AllReady.nil
                  refine step_app_rd rfl _ _ 47 rfl wr.heap.size 3 i0 _ 1 _ Try.underlying47 hi0 hz0 hz1 hz2 rfl (by omega) Nm.cells_len Nm.one (.slice (some ⟨wr.heap.size + 1, 0, none⟩) 0 0) 0 [] rfl (own_empty_at (wr.alloc (.cells #[.int .i64 (kk : Int)] 3)) (base := wr.heap.size) (g := wr.heap.size + 1) 3 1 (by simp) (by simp)) (lo := w.heap.size) (hi' := wr.heap.size) (A := some ⟨b, off, none⟩) (m := kq) (c := c5) (l := S.take kq) rfl (hkrd.below bC (Nat.le_refl _)) (by unfold maxLen; omega) (by omega) (by simp; omega) ?_
                  intro v4 w4 h4 g4
                  have b4 : Below wr.heap.size wr w4 := bC.grown g4 bC.size (by intro j hj; simp [Value.ownBlock] at hj; omega)
                  refine hK3 _ _ ?_
                  have b6 := b4
                  have c6 : ∀ (j : Nat) (u : Value), (Nm.cells (kk : Int))[j]? = some u → w4.cell? ⟨wr.heap.size, j, none⟩ = some u := fun j u hu => g4.cell (cC j u hu) (by simp [Value.ownBlock])
                  have r6 := h4
                  clear h4 b4
                  refine wpAny_ready (rs := [7]) (by kernel_rfl) (by decide) ?_
                  refine AllReady.cons rfl (fun K7 hK7 => ?_) AllReady.nil
                  refine step_app_rd rfl _ _ 47 rfl wr.heap.size 3 i0 _ 1 _ Try.underlying47 hi0 hz0 hz1 hz2 rfl (by omega) Nm.cells_len Nm.one v4 _ _ rfl r6 (A := some ⟨_, 0, none⟩) (m := 1) (c := 1) (l := [(kk : Int)]) rfl (rd_one c6) (by unfold maxLen; omega) (by omega) b6.size ?_
                  intro v7 w7 h7 g7
                  refine hK7 _ _ ?_
                  have b7 : Below wr.heap.size wr w7 := b6.grown g7 b6.size (own_ge r6)
                  clear g7 r6 c6 b6
                  refine wpAny_ready (rs := [11]) (by kernel_rfl) (by decide) ?_
                  refine AllReady.cons rfl (fun K11 hK11 => ?_) AllReady.nil
                  refine step_app_rd rfl _ _ 47 rfl wr.heap.size 3 i0 _ 1 _ Try.underlying47 hi0 hz0 hz1 hz2 rfl (by omega) Nm.cells_len Nm.one v7 _ _ rfl h7 (A := _) (m := m - kq) (c := c5 - kq) (l := S.drop kq) rfl (hdrd.below b7 (Nat.le_refl _)) (by unfold maxLen; omega) (by omega) b7.size ?_
                  intro v8 w8 h8 g8
                  refine hK11 _ _ ?_
                  have b8 : Below wr.heap.size wr w8 := b7.grown g8 b7.size (own_ge h7)
                  refine wpAny_ready (rs := [12]) (by kernel_rfl) (by decide) ?_
                  refine AllReady.cons rfl (fun K12 hK12 => ?_) AllReady.nil
                  go_simp
                  refine hK12 _ _ ?_
                  refine ⟨by kernel_rfl, ?_⟩
                  go_wp2_with fail
                  go_roundw
                  case rel => exact ⟨kk + 1, by omega, by go_num, hbn.trans (b8.mono hbn.size), by rw [HF.out]; exact (Ow.of_own Nm.cells_len h8 (l := insK (Iq.ltp l) S kk) (by simp [insK, HQ.out]) (by rw [insK_len]; have := HL.out; omega)).rd.mono hbn.size (Nat.le_refl _)⟩
                  case measure => simp [intOf]; omega
        · rw [hq] at c1 hP
          have HF := Lib.hid (Iq.pre_skip (show Iq.rdyP l cpu kk = false from by rw [hP]; simp [hq2]))
          clear hq hP
          go_wp2_with fail
          refine (c1 _).mono ?_; rintro e w2 ⟨rfl, b2⟩
          replace f4 := (b2.cell (p := ⟨b0, off0 + kk * 5 + 4, none⟩) hbw).trans f4
          go_wp2_with fail
          go_roundw
          case rel => exact ⟨kk + 1, by omega, by go_num, hb.trans (b2.mono hb.size), by rw [HF.out]; exact (hf.below b2 (Nat.le_refl _)).mono (Nat.le_refl _) b2.size⟩
          case measure => simp [intOf]; omega
    · have hkn : kk = l.length := by rw [← H.out]; omega
      have HK := Lib.hid hkn
      clear hkn
      go_wp2_with fail
      go_ret
      exact ⟨_, rfl, by rw [Iq.all, ← HK.out]; exact hf, hb⟩

end Go.Proofs.Ytgnalbfepkcokaa
