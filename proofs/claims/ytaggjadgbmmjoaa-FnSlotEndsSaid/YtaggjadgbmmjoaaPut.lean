/- Putting a number that is not there yet into a rising list, in the reference: condition: the number is not in the list, and the list has at most 1048576 elements. -/
import Derived.Test.YtaggjadgbmmjoaaHas
import Derived.Test.YtaggjadgbmmjoaaRegion2
import Derived.Test.YtaggjadgbmmjoaaBase3
import Derived.Deep.AppendLies
import Derived.Deep.RegionLaw
namespace Go.Proofs.Ytaggjadgbmmjoaa
open Go.RowKit Go.ChangeShapes Go.WideShapes Go.Deep

/-- how many leading numbers are below x -/
def lead (x : Int) : List Int → Nat
  | [] => 0
  | y :: l => if y < x then lead x l + 1 else 0
theorem lead_le (x : Int) : ∀ l : List Int, lead x l ≤ l.length
  | [] => Nat.le_refl _
  | y :: l => by have := lead_le x l; simp only [lead, List.length_cons]; split <;> omega
theorem lead_at (x : Int) : ∀ (l : List Int) (k : Nat) (y : Int), k ≤ lead x l → l[k]? = some y → (y < x ↔ k < lead x l)
  | [], k, y, _, h => by simp at h
  | z :: l, 0, y, _, h => by
    simp at h; subst h
    simp only [lead]; split <;> simp_all
  | z :: l, k + 1, y, hk, h => by
    simp only [lead] at hk ⊢
    split at hk
    · rename_i hz
      rw [if_pos hz]
      have := lead_at x l k y (by omega) (by simpa using h)
      omega
    · omega
def putL (x : Int) (l : List Int) : List Int := l.take (lead x l) ++ x :: l.drop (lead x l)
theorem putL_len (x : Int) (l : List Int) : (putL x l).length = l.length + 1 := by
  have := lead_le x l
  simp only [putL, List.length_append, List.length_take, List.length_cons, List.length_drop]; omega

set_option maxHeartbeats 1000000 in
theorem l1Put_any (v : Value) (l : List Int) (x : Int) (w : World) {lo hi : Nat} (h : Rd Nm.cells 1 w lo hi v l) (hh : hi ≤ w.heap.size) (hx : x ∉ l) (hlen : l.length ≤ 1048576) :
    Calls Try.prog 47 #[v, .int .i64 x] w fun e w' => ∃ v', e = .returned v' ∧ Ow Nm.cells 1 3 w' w.heap.size w'.heap.size v' (putL x l) ∧ Below w.heap.size w w' := by
  have hrd := h
  obtain ⟨A, n, c, rfl, H, hc, hm⟩ := h.form
  rw [← H.out] at hlen
  have HX := Lib.hid hx
  have hll := lead_le x l
  rw [← H.out] at hll
  clear hx
  go_enter Try.func47, Try.ntmps47
  go_wp2_with fail
  go_loop [5] (fun j => ∃ k : Nat, k ≤ lead x l ∧ j = .int .i64 k) (fun j => n - (intOf j).toNat)
  case atStart => exact ⟨0, Nat.zero_le _, rfl⟩
  case round =>
    obtain ⟨k, hk, rfl⟩ := hrel
    by_cases hlt : k < n
    · obtain ⟨b, off, y, rfl, hy, _, hbl, f0⟩ := Nm.get h hlt (Below.refl w.heap.size w) hh
      have hat := lead_at x l k y hk hy.out
      have hne : y ≠ x := fun e => HX.out (e ▸ List.mem_of_getElem? hy.out)
      by_cases hyx : y < x
      · have hk1 := hat.1 hyx
        clear hat
        go_wp2_with fail
        go_round
        case rel => exact ⟨k + 1, by omega, by go_num⟩
        case measure => simp [intOf]; omega
      · have HKL := Lib.hid (show k = lead x l from by have := mt hat.2 hyx; omega)
        clear hat
        go_wp2_with fail
        have hkc : k ≤ c := by omega
        have hkn : k ≤ n := by omega
        have hdrd := hrd.drop1p hkn
        refine wp_region_any (by kernel_rfl) ?_
        refine wpAny_take (i := 1) (v := .slice (some ⟨b, off, none⟩) n c) rfl (by kernel_rfl) (by kernel_rfl) (by kernel_rfl) (fun _ _ _ h => h) (Or.inl ⟨by rfl, by intro w; go_simp⟩) ?_
        refine wpAny_take (i := 2) (v := .int .i64 k) rfl (by kernel_rfl) (by kernel_rfl) (by kernel_rfl) (fun _ _ _ h => h) (Or.inl ⟨by rfl, by intro w; go_simp⟩) ?_
        refine wpAny_take (i := 3) (v := .slice (some ⟨b, off, none⟩) k c) rfl (by kernel_rfl) (by kernel_rfl) (by kernel_rfl) (fun _ _ _ h => h) (Or.inl ⟨by rfl, by intro w; go_simp⟩) ?_
        refine wpAny_take (i := 5) (v := .int .i64 x) rfl (by kernel_rfl) (by kernel_rfl) (by kernel_rfl) (fun _ _ _ h => h) (Or.inl ⟨by rfl, by intro w; go_simp⟩) ?_
        refine wpAny_take (i := 8) (v := .slice (some ⟨b, off, none⟩) n c) rfl (by kernel_rfl) (by kernel_rfl) (by kernel_rfl) (fun _ _ _ h => h) (Or.inl ⟨by rfl, by intro w; go_simp⟩) ?_
        refine wpAny_take (i := 9) (v := .int .i64 k) rfl (by kernel_rfl) (by kernel_rfl) (by kernel_rfl) (fun _ _ _ h => h) (Or.inl ⟨by rfl, by intro w; go_simp⟩) ?_
        refine wpAny_take (i := 10) (v := .slice (if c = k then some ⟨b, off, none⟩ else some ⟨b, off + k, none⟩) (n - k) (c - k)) rfl (by kernel_rfl) (by kernel_rfl) (by kernel_rfl) (fun _ _ _ h => h) (Or.inl ⟨by rfl, by intro w; go_simp⟩) ?_
        generalize (if c = k then (some ⟨b, off, none⟩ : Option Addr) else some ⟨b, off + k, none⟩) = B0 at hdrd ⊢
        refine wpAny_ready (rs := [0, 6]) (by kernel_rfl) (by decide) ?_
        have hm63 : n ≤ maxLen := by unfold maxLen; omega
        obtain ⟨i0, hi0, hz0, hz1, hz2⟩ := info_parts Nm.info
        have hkrd := hrd.take_ hkn
        have hx1 : ∀ (j : Nat) (u : Value), (Nm.cells x)[j]? = some u → #[Value.int .i64 x][j]? = some u := fun j u hu => by simpa [Nm.cells] using hu
        refine AllReady.cons rfl (fun K hK => ?_) (AllReady.cons rfl (fun K hK => ?_) AllReady.nil)
        · go_simp
          refine hK _ _ ?_
          have bA : Below w.heap.size w (w.alloc (.cells #[] 3)).drew := ((Below.refl w.heap.size w).alloc (Nat.le_refl _) _).drew
          refine wpAny_ready (rs := [4, 6]) (by kernel_rfl) (by decide) ?_
          refine AllReady.cons rfl (fun K2 hK2 => ?_) (AllReady.cons rfl (fun K2 hK2 => ?_) AllReady.nil)
          · refine step_app_rd rfl _ _ 39 rfl w.heap.size 3 i0 _ 1 _ Try.underlying39 hi0 hz0 hz1 hz2 rfl (by omega) Nm.cells_len Nm.one (.slice (some ⟨w.heap.size, 0, none⟩) 0 0) 0 [] rfl (own_empty w (base := w.heap.size) 3 1 (Nat.le_refl _)) (lo := lo) (hi' := hi) (A := some ⟨b, off, none⟩) (m := k) (c := c) (l := l.take k) rfl (hkrd.below bA hh) (by unfold maxLen; omega) (by omega) (by simp) ?_
            intro v4 w4 h4 g4
            have b4 : Below w.heap.size w w4 := bA.grown g4 bA.size (by intro j hj; simp [Value.ownBlock] at hj; omega)
            refine hK2 _ _ ?_
            have b6 : Below w.heap.size w (w4.alloc (.cells #[.int .i64 x] 3)) := b4.alloc b4.size _
            have c6 : ∀ (j : Nat) (u : Value), (Nm.cells x)[j]? = some u → (w4.alloc (.cells #[.int .i64 x] 3)).cell? ⟨w4.heap.size, j, none⟩ = some u := fun j u hu => cell_new w4 _ _ rfl (hx1 j u hu)
            have r6 := h4.alloc (.cells #[.int .i64 x] 3)
            clear h4 b4
            refine wpAny_ready (rs := [6]) (by kernel_rfl) (by decide) ?_
            refine AllReady.cons rfl (fun K3 hK3 => ?_) AllReady.nil
            go_simp
            refine hK3 _ _ ?_
            refine wpAny_ready (rs := [7]) (by kernel_rfl) (by decide) ?_
            refine AllReady.cons rfl (fun K7 hK7 => ?_) AllReady.nil
            refine step_app_rd rfl _ _ 39 rfl w.heap.size 3 i0 _ 1 _ Try.underlying39 hi0 hz0 hz1 hz2 rfl (by omega) Nm.cells_len Nm.one v4 _ _ rfl r6 (A := some ⟨_, 0, none⟩) (m := 1) (c := 1) (l := [x]) rfl (rd_one c6) (by unfold maxLen; omega) (by omega) b6.size ?_
            intro v7 w7 h7 g7
            refine hK7 _ _ ?_
            have b7 : Below w.heap.size w w7 := b6.grown g7 b6.size (own_ge r6)
            clear g7 r6 c6 b6
            refine wpAny_ready (rs := [11]) (by kernel_rfl) (by decide) ?_
            refine AllReady.cons rfl (fun K11 hK11 => ?_) AllReady.nil
            refine step_app_rd rfl _ _ 39 rfl w.heap.size 3 i0 _ 1 _ Try.underlying39 hi0 hz0 hz1 hz2 rfl (by omega) Nm.cells_len Nm.one v7 _ _ rfl h7 (A := _) (m := n - k) (c := c - k) (l := l.drop k) rfl (hdrd.below b7 hh) (by unfold maxLen; omega) (by omega) b7.size ?_
            intro v8 w8 h8 g8
            refine hK11 _ _ ?_
            have b8 : Below w.heap.size w w8 := b7.grown g8 b7.size (own_ge h7)
            refine wpAny_ready (rs := [12]) (by kernel_rfl) (by decide) ?_
            refine AllReady.cons rfl (fun K12 hK12 => ?_) AllReady.nil
            go_simp
            refine hK12 _ _ ?_
            refine ⟨by kernel_rfl, ?_⟩
            go_wp2_with fail
            go_ret
            exact ⟨v8, rfl, Ow.of_own Nm.cells_len h8 (l := putL x l) (by simp [putL, ← HKL.out]) (by rw [putL_len]; have := H.out; omega), b8⟩
          · go_simp
            refine hK2 _ _ ?_
            have bB : Below w.heap.size w ((w.alloc (.cells #[] 3)).drew.alloc (.cells #[.int .i64 x] 3)) := bA.alloc bA.size _
            have cB : ∀ (j : Nat) (u : Value), (Nm.cells x)[j]? = some u → ((w.alloc (.cells #[] 3)).drew.alloc (.cells #[.int .i64 x] 3)).cell? ⟨w.heap.size + 1, j, none⟩ = some u := fun j u hu => cell_new _ _ _ (by simp) (hx1 j u hu)
            refine wpAny_ready (rs := [4]) (by kernel_rfl) (by decide) ?_
            refine AllReady.cons rfl (fun K3 hK3 => ?_) AllReady.nil
            refine step_app_rd rfl _ _ 39 rfl w.heap.size 3 i0 _ 1 _ Try.underlying39 hi0 hz0 hz1 hz2 rfl (by omega) Nm.cells_len Nm.one (.slice (some ⟨w.heap.size, 0, none⟩) 0 0) 0 [] rfl ((own_empty w (base := w.heap.size) 3 1 (Nat.le_refl _)).alloc (.cells #[.int .i64 x] 3)) (lo := lo) (hi' := hi) (A := some ⟨b, off, none⟩) (m := k) (c := c) (l := l.take k) rfl (hkrd.below bB hh) (by unfold maxLen; omega) (by omega) (by simp; omega) ?_
            intro v4 w4 h4 g4
            have b4 : Below w.heap.size w w4 := bB.grown g4 bB.size (by intro j hj; simp [Value.ownBlock] at hj; omega)
            refine hK3 _ _ ?_
            have b6 := b4
            have c6 : ∀ (j : Nat) (u : Value), (Nm.cells x)[j]? = some u → w4.cell? ⟨w.heap.size + 1, j, none⟩ = some u := fun j u hu => g4.cell (cB j u hu) (by simp [Value.ownBlock])
            have r6 := h4
            clear h4 b4
            refine wpAny_ready (rs := [7]) (by kernel_rfl) (by decide) ?_
            refine AllReady.cons rfl (fun K7 hK7 => ?_) AllReady.nil
            refine step_app_rd rfl _ _ 39 rfl w.heap.size 3 i0 _ 1 _ Try.underlying39 hi0 hz0 hz1 hz2 rfl (by omega) Nm.cells_len Nm.one v4 _ _ rfl r6 (A := some ⟨_, 0, none⟩) (m := 1) (c := 1) (l := [x]) rfl (rd_one c6) (by unfold maxLen; omega) (by omega) b6.size ?_
            intro v7 w7 h7 g7
            refine hK7 _ _ ?_
            have b7 : Below w.heap.size w w7 := b6.grown g7 b6.size (own_ge r6)
            clear g7 r6 c6 b6
            refine wpAny_ready (rs := [11]) (by kernel_rfl) (by decide) ?_
            refine AllReady.cons rfl (fun K11 hK11 => ?_) AllReady.nil
            refine step_app_rd rfl _ _ 39 rfl w.heap.size 3 i0 _ 1 _ Try.underlying39 hi0 hz0 hz1 hz2 rfl (by omega) Nm.cells_len Nm.one v7 _ _ rfl h7 (A := _) (m := n - k) (c := c - k) (l := l.drop k) rfl (hdrd.below b7 hh) (by unfold maxLen; omega) (by omega) b7.size ?_
            intro v8 w8 h8 g8
            refine hK11 _ _ ?_
            have b8 : Below w.heap.size w w8 := b7.grown g8 b7.size (own_ge h7)
            refine wpAny_ready (rs := [12]) (by kernel_rfl) (by decide) ?_
            refine AllReady.cons rfl (fun K12 hK12 => ?_) AllReady.nil
            go_simp
            refine hK12 _ _ ?_
            refine ⟨by kernel_rfl, ?_⟩
            go_wp2_with fail
            go_ret
            exact ⟨v8, rfl, Ow.of_own Nm.cells_len h8 (l := putL x l) (by simp [putL, ← HKL.out]) (by rw [putL_len]; have := H.out; omega), b8⟩
        · go_simp
          refine hK _ _ ?_
          have bC1 : Below w.heap.size w (w.alloc (.cells #[.int .i64 x] 3)).drew := ((Below.refl w.heap.size w).alloc (Nat.le_refl _) _).drew
          have cC1 : ∀ (j : Nat) (u : Value), (Nm.cells x)[j]? = some u → (w.alloc (.cells #[.int .i64 x] 3)).drew.cell? ⟨w.heap.size, j, none⟩ = some u := fun j u hu => cell_new w _ _ rfl (hx1 j u hu)
          refine wpAny_ready (rs := [0]) (by kernel_rfl) (by decide) ?_
          refine AllReady.cons rfl (fun K2 hK2 => ?_) AllReady.nil
          go_simp
          refine hK2 _ _ ?_
          have bC := bC1.alloc bC1.size (.cells #[] 3)
          have cC : ∀ (j : Nat) (u : Value), (Nm.cells x)[j]? = some u → ((w.alloc (.cells #[.int .i64 x] 3)).drew.alloc (.cells #[] 3)).cell? ⟨w.heap.size, j, none⟩ = some u := fun j u hu => by rw [World.cell?_alloc_lt _ _ _ (by simp)]; exact cC1 j u hu
          refine wpAny_ready (rs := [4]) (by kernel_rfl) (by decide) ?_
          refine AllReady.cons rfl (fun K3 hK3 => ?_) AllReady.nil
          refine step_app_rd rfl _ _ 39 rfl w.heap.size 3 i0 _ 1 _ Try.underlying39 hi0 hz0 hz1 hz2 rfl (by omega) Nm.cells_len Nm.one (.slice (some ⟨w.heap.size + 1, 0, none⟩) 0 0) 0 [] rfl (own_empty_at (w.alloc (.cells #[.int .i64 x] 3)) (base := w.heap.size) (g := w.heap.size + 1) 3 1 (by simp) (by simp)) (lo := lo) (hi' := hi) (A := some ⟨b, off, none⟩) (m := k) (c := c) (l := l.take k) rfl (hkrd.below bC hh) (by unfold maxLen; omega) (by omega) (by simp; omega) ?_
          intro v4 w4 h4 g4
          have b4 : Below w.heap.size w w4 := bC.grown g4 bC.size (by intro j hj; simp [Value.ownBlock] at hj; omega)
          refine hK3 _ _ ?_
          have b6 := b4
          have c6 : ∀ (j : Nat) (u : Value), (Nm.cells x)[j]? = some u → w4.cell? ⟨w.heap.size, j, none⟩ = some u := fun j u hu => g4.cell (cC j u hu) (by simp [Value.ownBlock])
          have r6 := h4
          clear h4 b4
          refine wpAny_ready (rs := [7]) (by kernel_rfl) (by decide) ?_
          refine AllReady.cons rfl (fun K7 hK7 => ?_) AllReady.nil
          refine step_app_rd rfl _ _ 39 rfl w.heap.size 3 i0 _ 1 _ Try.underlying39 hi0 hz0 hz1 hz2 rfl (by omega) Nm.cells_len Nm.one v4 _ _ rfl r6 (A := some ⟨_, 0, none⟩) (m := 1) (c := 1) (l := [x]) rfl (rd_one c6) (by unfold maxLen; omega) (by omega) b6.size ?_
          intro v7 w7 h7 g7
          refine hK7 _ _ ?_
          have b7 : Below w.heap.size w w7 := b6.grown g7 b6.size (own_ge r6)
          clear g7 r6 c6 b6
          refine wpAny_ready (rs := [11]) (by kernel_rfl) (by decide) ?_
          refine AllReady.cons rfl (fun K11 hK11 => ?_) AllReady.nil
          refine step_app_rd rfl _ _ 39 rfl w.heap.size 3 i0 _ 1 _ Try.underlying39 hi0 hz0 hz1 hz2 rfl (by omega) Nm.cells_len Nm.one v7 _ _ rfl h7 (A := _) (m := n - k) (c := c - k) (l := l.drop k) rfl (hdrd.below b7 hh) (by unfold maxLen; omega) (by omega) b7.size ?_
          intro v8 w8 h8 g8
          refine hK11 _ _ ?_
          have b8 : Below w.heap.size w w8 := b7.grown g8 b7.size (own_ge h7)
          refine wpAny_ready (rs := [12]) (by kernel_rfl) (by decide) ?_
          refine AllReady.cons rfl (fun K12 hK12 => ?_) AllReady.nil
          go_simp
          refine hK12 _ _ ?_
          refine ⟨by kernel_rfl, ?_⟩
          go_wp2_with fail
          go_ret
          exact ⟨v8, rfl, Ow.of_own Nm.cells_len h8 (l := putL x l) (by simp [putL, ← HKL.out]) (by rw [putL_len]; have := H.out; omega), b8⟩

    · have HKL := Lib.hid (show k = lead x l by omega)
      go_wp2_with fail
      have hkc : k ≤ c := by omega
      have hkn : k ≤ n := by omega
      have hdrd := hrd.drop1 hkn
      refine wp_region_any (by kernel_rfl) ?_
      refine wpAny_take (i := 1) (v := .slice A n c) rfl (by kernel_rfl) (by kernel_rfl) (by kernel_rfl) (fun _ _ _ h => h) (Or.inl ⟨by rfl, by intro w; go_simp⟩) ?_
      refine wpAny_take (i := 2) (v := .int .i64 k) rfl (by kernel_rfl) (by kernel_rfl) (by kernel_rfl) (fun _ _ _ h => h) (Or.inl ⟨by rfl, by intro w; go_simp⟩) ?_
      refine wpAny_take (i := 3) (v := .slice A k c) rfl (by kernel_rfl) (by kernel_rfl) (by kernel_rfl) (fun _ _ _ h => h) (Or.inl ⟨by rfl, by intro w; go_simp⟩) ?_
      refine wpAny_take (i := 5) (v := .int .i64 x) rfl (by kernel_rfl) (by kernel_rfl) (by kernel_rfl) (fun _ _ _ h => h) (Or.inl ⟨by rfl, by intro w; go_simp⟩) ?_
      refine wpAny_take (i := 8) (v := .slice A n c) rfl (by kernel_rfl) (by kernel_rfl) (by kernel_rfl) (fun _ _ _ h => h) (Or.inl ⟨by rfl, by intro w; go_simp⟩) ?_
      refine wpAny_take (i := 9) (v := .int .i64 k) rfl (by kernel_rfl) (by kernel_rfl) (by kernel_rfl) (fun _ _ _ h => h) (Or.inl ⟨by rfl, by intro w; go_simp⟩) ?_
      refine wpAny_take (i := 10) (v := .slice (if c = k then A else Option.map (fun x => x.add k) A) (n - k) (c - k)) rfl (by kernel_rfl) (by kernel_rfl) (by kernel_rfl) (fun _ _ _ h => h) (Or.inl ⟨by rfl, by intro w; go_simp⟩) ?_
      generalize (if c = k then A else Option.map (fun x => x.add k) A) = B0 at hdrd ⊢
      refine wpAny_ready (rs := [0, 6]) (by kernel_rfl) (by decide) ?_
      have hm63 : n ≤ maxLen := by unfold maxLen; omega
      obtain ⟨i0, hi0, hz0, hz1, hz2⟩ := info_parts Nm.info
      have hkrd := hrd.take_ hkn
      have hx1 : ∀ (j : Nat) (u : Value), (Nm.cells x)[j]? = some u → #[Value.int .i64 x][j]? = some u := fun j u hu => by simpa [Nm.cells] using hu
      refine AllReady.cons rfl (fun K hK => ?_) (AllReady.cons rfl (fun K hK => ?_) AllReady.nil)
      · go_simp
        refine hK _ _ ?_
        have bA : Below w.heap.size w (w.alloc (.cells #[] 3)).drew := ((Below.refl w.heap.size w).alloc (Nat.le_refl _) _).drew
        refine wpAny_ready (rs := [4, 6]) (by kernel_rfl) (by decide) ?_
        refine AllReady.cons rfl (fun K2 hK2 => ?_) (AllReady.cons rfl (fun K2 hK2 => ?_) AllReady.nil)
        · refine step_app_rd rfl _ _ 39 rfl w.heap.size 3 i0 _ 1 _ Try.underlying39 hi0 hz0 hz1 hz2 rfl (by omega) Nm.cells_len Nm.one (.slice (some ⟨w.heap.size, 0, none⟩) 0 0) 0 [] rfl (own_empty w (base := w.heap.size) 3 1 (Nat.le_refl _)) (lo := lo) (hi' := hi) (A := A) (m := k) (c := c) (l := l.take k) rfl (hkrd.below bA hh) (by unfold maxLen; omega) (by omega) (by simp) ?_
          intro v4 w4 h4 g4
          have b4 : Below w.heap.size w w4 := bA.grown g4 bA.size (by intro j hj; simp [Value.ownBlock] at hj; omega)
          refine hK2 _ _ ?_
          have b6 : Below w.heap.size w (w4.alloc (.cells #[.int .i64 x] 3)) := b4.alloc b4.size _
          have c6 : ∀ (j : Nat) (u : Value), (Nm.cells x)[j]? = some u → (w4.alloc (.cells #[.int .i64 x] 3)).cell? ⟨w4.heap.size, j, none⟩ = some u := fun j u hu => cell_new w4 _ _ rfl (hx1 j u hu)
          have r6 := h4.alloc (.cells #[.int .i64 x] 3)
          clear h4 b4
          refine wpAny_ready (rs := [6]) (by kernel_rfl) (by decide) ?_
          refine AllReady.cons rfl (fun K3 hK3 => ?_) AllReady.nil
          go_simp
          refine hK3 _ _ ?_
          refine wpAny_ready (rs := [7]) (by kernel_rfl) (by decide) ?_
          refine AllReady.cons rfl (fun K7 hK7 => ?_) AllReady.nil
          refine step_app_rd rfl _ _ 39 rfl w.heap.size 3 i0 _ 1 _ Try.underlying39 hi0 hz0 hz1 hz2 rfl (by omega) Nm.cells_len Nm.one v4 _ _ rfl r6 (A := some ⟨_, 0, none⟩) (m := 1) (c := 1) (l := [x]) rfl (rd_one c6) (by unfold maxLen; omega) (by omega) b6.size ?_
          intro v7 w7 h7 g7
          refine hK7 _ _ ?_
          have b7 : Below w.heap.size w w7 := b6.grown g7 b6.size (own_ge r6)
          clear g7 r6 c6 b6
          refine wpAny_ready (rs := [11]) (by kernel_rfl) (by decide) ?_
          refine AllReady.cons rfl (fun K11 hK11 => ?_) AllReady.nil
          refine step_app_rd rfl _ _ 39 rfl w.heap.size 3 i0 _ 1 _ Try.underlying39 hi0 hz0 hz1 hz2 rfl (by omega) Nm.cells_len Nm.one v7 _ _ rfl h7 (A := _) (m := n - k) (c := c - k) (l := l.drop k) rfl (hdrd.below b7 hh) (by unfold maxLen; omega) (by omega) b7.size ?_
          intro v8 w8 h8 g8
          refine hK11 _ _ ?_
          have b8 : Below w.heap.size w w8 := b7.grown g8 b7.size (own_ge h7)
          refine wpAny_ready (rs := [12]) (by kernel_rfl) (by decide) ?_
          refine AllReady.cons rfl (fun K12 hK12 => ?_) AllReady.nil
          go_simp
          refine hK12 _ _ ?_
          refine ⟨by kernel_rfl, ?_⟩
          go_wp2_with fail
          go_ret
          exact ⟨v8, rfl, Ow.of_own Nm.cells_len h8 (l := putL x l) (by simp [putL, ← HKL.out]) (by rw [putL_len]; have := H.out; omega), b8⟩
        · go_simp
          refine hK2 _ _ ?_
          have bB : Below w.heap.size w ((w.alloc (.cells #[] 3)).drew.alloc (.cells #[.int .i64 x] 3)) := bA.alloc bA.size _
          have cB : ∀ (j : Nat) (u : Value), (Nm.cells x)[j]? = some u → ((w.alloc (.cells #[] 3)).drew.alloc (.cells #[.int .i64 x] 3)).cell? ⟨w.heap.size + 1, j, none⟩ = some u := fun j u hu => cell_new _ _ _ (by simp) (hx1 j u hu)
          refine wpAny_ready (rs := [4]) (by kernel_rfl) (by decide) ?_
          refine AllReady.cons rfl (fun K3 hK3 => ?_) AllReady.nil
          refine step_app_rd rfl _ _ 39 rfl w.heap.size 3 i0 _ 1 _ Try.underlying39 hi0 hz0 hz1 hz2 rfl (by omega) Nm.cells_len Nm.one (.slice (some ⟨w.heap.size, 0, none⟩) 0 0) 0 [] rfl ((own_empty w (base := w.heap.size) 3 1 (Nat.le_refl _)).alloc (.cells #[.int .i64 x] 3)) (lo := lo) (hi' := hi) (A := A) (m := k) (c := c) (l := l.take k) rfl (hkrd.below bB hh) (by unfold maxLen; omega) (by omega) (by simp; omega) ?_
          intro v4 w4 h4 g4
          have b4 : Below w.heap.size w w4 := bB.grown g4 bB.size (by intro j hj; simp [Value.ownBlock] at hj; omega)
          refine hK3 _ _ ?_
          have b6 := b4
          have c6 : ∀ (j : Nat) (u : Value), (Nm.cells x)[j]? = some u → w4.cell? ⟨w.heap.size + 1, j, none⟩ = some u := fun j u hu => g4.cell (cB j u hu) (by simp [Value.ownBlock])
          have r6 := h4
          clear h4 b4
          refine wpAny_ready (rs := [7]) (by kernel_rfl) (by decide) ?_
          refine AllReady.cons rfl (fun K7 hK7 => ?_) AllReady.nil
          refine step_app_rd rfl _ _ 39 rfl w.heap.size 3 i0 _ 1 _ Try.underlying39 hi0 hz0 hz1 hz2 rfl (by omega) Nm.cells_len Nm.one v4 _ _ rfl r6 (A := some ⟨_, 0, none⟩) (m := 1) (c := 1) (l := [x]) rfl (rd_one c6) (by unfold maxLen; omega) (by omega) b6.size ?_
          intro v7 w7 h7 g7
          refine hK7 _ _ ?_
          have b7 : Below w.heap.size w w7 := b6.grown g7 b6.size (own_ge r6)
          clear g7 r6 c6 b6
          refine wpAny_ready (rs := [11]) (by kernel_rfl) (by decide) ?_
          refine AllReady.cons rfl (fun K11 hK11 => ?_) AllReady.nil
          refine step_app_rd rfl _ _ 39 rfl w.heap.size 3 i0 _ 1 _ Try.underlying39 hi0 hz0 hz1 hz2 rfl (by omega) Nm.cells_len Nm.one v7 _ _ rfl h7 (A := _) (m := n - k) (c := c - k) (l := l.drop k) rfl (hdrd.below b7 hh) (by unfold maxLen; omega) (by omega) b7.size ?_
          intro v8 w8 h8 g8
          refine hK11 _ _ ?_
          have b8 : Below w.heap.size w w8 := b7.grown g8 b7.size (own_ge h7)
          refine wpAny_ready (rs := [12]) (by kernel_rfl) (by decide) ?_
          refine AllReady.cons rfl (fun K12 hK12 => ?_) AllReady.nil
          go_simp
          refine hK12 _ _ ?_
          refine ⟨by kernel_rfl, ?_⟩
          go_wp2_with fail
          go_ret
          exact ⟨v8, rfl, Ow.of_own Nm.cells_len h8 (l := putL x l) (by simp [putL, ← HKL.out]) (by rw [putL_len]; have := H.out; omega), b8⟩
      · go_simp
        refine hK _ _ ?_
        have bC1 : Below w.heap.size w (w.alloc (.cells #[.int .i64 x] 3)).drew := ((Below.refl w.heap.size w).alloc (Nat.le_refl _) _).drew
        have cC1 : ∀ (j : Nat) (u : Value), (Nm.cells x)[j]? = some u → (w.alloc (.cells #[.int .i64 x] 3)).drew.cell? ⟨w.heap.size, j, none⟩ = some u := fun j u hu => cell_new w _ _ rfl (hx1 j u hu)
        refine wpAny_ready (rs := [0]) (by kernel_rfl) (by decide) ?_
        refine AllReady.cons rfl (fun K2 hK2 => ?_) AllReady.nil
        go_simp
        refine hK2 _ _ ?_
        have bC := bC1.alloc bC1.size (.cells #[] 3)
        have cC : ∀ (j : Nat) (u : Value), (Nm.cells x)[j]? = some u → ((w.alloc (.cells #[.int .i64 x] 3)).drew.alloc (.cells #[] 3)).cell? ⟨w.heap.size, j, none⟩ = some u := fun j u hu => by rw [World.cell?_alloc_lt _ _ _ (by simp)]; exact cC1 j u hu
        refine wpAny_ready (rs := [4]) (by kernel_rfl) (by decide) ?_
        refine AllReady.cons rfl (fun K3 hK3 => ?_) AllReady.nil
        refine step_app_rd rfl _ _ 39 rfl w.heap.size 3 i0 _ 1 _ Try.underlying39 hi0 hz0 hz1 hz2 rfl (by omega) Nm.cells_len Nm.one (.slice (some ⟨w.heap.size + 1, 0, none⟩) 0 0) 0 [] rfl (own_empty_at (w.alloc (.cells #[.int .i64 x] 3)) (base := w.heap.size) (g := w.heap.size + 1) 3 1 (by simp) (by simp)) (lo := lo) (hi' := hi) (A := A) (m := k) (c := c) (l := l.take k) rfl (hkrd.below bC hh) (by unfold maxLen; omega) (by omega) (by simp; omega) ?_
        intro v4 w4 h4 g4
        have b4 : Below w.heap.size w w4 := bC.grown g4 bC.size (by intro j hj; simp [Value.ownBlock] at hj; omega)
        refine hK3 _ _ ?_
        have b6 := b4
        have c6 : ∀ (j : Nat) (u : Value), (Nm.cells x)[j]? = some u → w4.cell? ⟨w.heap.size, j, none⟩ = some u := fun j u hu => g4.cell (cC j u hu) (by simp [Value.ownBlock])
        have r6 := h4
        clear h4 b4
        refine wpAny_ready (rs := [7]) (by kernel_rfl) (by decide) ?_
        refine AllReady.cons rfl (fun K7 hK7 => ?_) AllReady.nil
        refine step_app_rd rfl _ _ 39 rfl w.heap.size 3 i0 _ 1 _ Try.underlying39 hi0 hz0 hz1 hz2 rfl (by omega) Nm.cells_len Nm.one v4 _ _ rfl r6 (A := some ⟨_, 0, none⟩) (m := 1) (c := 1) (l := [x]) rfl (rd_one c6) (by unfold maxLen; omega) (by omega) b6.size ?_
        intro v7 w7 h7 g7
        refine hK7 _ _ ?_
        have b7 : Below w.heap.size w w7 := b6.grown g7 b6.size (own_ge r6)
        clear g7 r6 c6 b6
        refine wpAny_ready (rs := [11]) (by kernel_rfl) (by decide) ?_
        refine AllReady.cons rfl (fun K11 hK11 => ?_) AllReady.nil
        refine step_app_rd rfl _ _ 39 rfl w.heap.size 3 i0 _ 1 _ Try.underlying39 hi0 hz0 hz1 hz2 rfl (by omega) Nm.cells_len Nm.one v7 _ _ rfl h7 (A := _) (m := n - k) (c := c - k) (l := l.drop k) rfl (hdrd.below b7 hh) (by unfold maxLen; omega) (by omega) b7.size ?_
        intro v8 w8 h8 g8
        refine hK11 _ _ ?_
        have b8 : Below w.heap.size w w8 := b7.grown g8 b7.size (own_ge h7)
        refine wpAny_ready (rs := [12]) (by kernel_rfl) (by decide) ?_
        refine AllReady.cons rfl (fun K12 hK12 => ?_) AllReady.nil
        go_simp
        refine hK12 _ _ ?_
        refine ⟨by kernel_rfl, ?_⟩
        go_wp2_with fail
        go_ret
        exact ⟨v8, rfl, Ow.of_own Nm.cells_len h8 (l := putL x l) (by simp [putL, ← HKL.out]) (by rw [putL_len]; have := H.out; omega), b8⟩

end Go.Proofs.Ytaggjadgbmmjoaa
