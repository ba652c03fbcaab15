/- Reading slots from a text, in the reference. Condition: at most 1048576 bytes. -/
import Derived.Test.YtaggjadgbmmjoaaDoorTxG
import Derived.Test.YtaggjadgbmmjoaaDoorTxT
import Derived.Test.YtaggjadgbmmjoaaDoorBox
import Derived.Deep.Cut
namespace Go.Proofs.YtaggjadgbmmjoaaDoor
open Go.RowKit Go.ChangeShapes Go.WideShapes Go.Deep

theorem Tx.grown_drewN {w w' : World} {row : Option Nat} (h : w.grownBy w' row) (n : Nat) : w.grownBy (w'.drewN n) row := ⟨h.os, h.tape, h.output, h.size, h.block⟩
def Tx.stUp (c : UInt8) (k : Nat) : Int := if Tx.stOf c < k then Tx.stOf c else 0
theorem Tx.stOf_cases (c : UInt8) : Tx.stOf c = 0 ∨ Tx.stOf c = 1 ∨ Tx.stOf c = 2 ∨ Tx.stOf c = 3 := by
  unfold Tx.stOf
  split
  · simp
  · split
    · simp
    · split <;> simp
theorem Tx.stUp_1 (c : UInt8) : Tx.stUp c 1 = 0 := by
  rcases Tx.stOf_cases c with h | h | h | h <;> simp [Tx.stUp, h]
theorem Tx.stUp_4 (c : UInt8) : Tx.stUp c 4 = Tx.stOf c := by
  rcases Tx.stOf_cases c with h | h | h | h <;> simp [Tx.stUp, h]
theorem Tx.stUp_yes {c : UInt8} {k : Nat} (h : Tx.stOf c = k) : Tx.stUp c (k + 1) = k := by
  rw [Tx.stUp, h, if_pos (by omega)]
theorem Tx.stUp_no {c : UInt8} {k : Nat} (h : ¬ Tx.stOf c = k) : Tx.stUp c (k + 1) = Tx.stUp c k := by
  unfold Tx.stUp
  by_cases h1 : Tx.stOf c < (k : Int)
  · rw [if_pos h1, if_pos (by omega)]
  · rw [if_neg h1, if_neg (by omega)]
theorem Tx.stOf_is (c : UInt8) : (c = 112 ↔ Tx.stOf c = 1) ∧ (c = 97 ↔ Tx.stOf c = 2) ∧ (c = 98 ↔ Tx.stOf c = 3) := by
  unfold Tx.stOf
  by_cases h1 : c = 112
  · subst h1; decide
  · by_cases h2 : c = 97
    · subst h2; decide
    · by_cases h3 : c = 98
      · subst h3; decide
      · simp [h1, h2, h3]

def Tx.PaE (s : ByteArray) (w w' : World) (e : Ending) : Prop := ∃ (v : Value) (out : List Sl) (ok : Bool), e = .returned (.tuple #[v, .bool ok]) ∧ Tx.Pa s out ok ∧ Ow Sl.cells 3 37 w' w.heap.size w'.heap.size v out

set_option maxRecDepth 8000 in
set_option maxHeartbeats 8000000 in
theorem specParseSlots_any (s : ByteArray) (w : World) (hs : s.size ≤ 1048576) :
    Calls Tryd.prog 10 #[.string s] w fun e w' => Tx.PaE s w w' e ∧ Below w.heap.size w w' := by
  have hb0 := (Below.refl w.heap.size w).alloc (Nat.le_refl _) (.cells #[] 37)
  have hf0 := own_empty w (base := w.heap.size) 37 3 (Nat.le_refl _)
  have zw0 := hb0.size
  go_enter Tryd.func10, Tryd.ntmps10
  go_upto_region 2 with fail
  generalize w.alloc _ = w0 at hb0 hf0 zw0 ⊢
  have c1 : Calls Tryd.prog 20 #[.string s, .int .u8 32] w0 _ := l1Split_any s 32 w0 hs
  go_wp2_with fail
  refine c1.mono ?_; rintro q_ w1 ⟨vW, W, rfl, hWl, HW0, oW, b1⟩
  clear c1
  have HW : Hid (W.map (·.data.toList) = Tx.split 32 s.data.toList) := HW0
  clear HW0
  have hf := own_below hf0 b1
  have hbr := hb0.trans (b1.mono hb0.size)
  have zw1 := b1.size
  clear b1 hf0 hb0
  obtain ⟨AW, nW, cW, rfl, HN, hcW, hmW⟩ := oW.form
  clear hWl
  by_cases h40 : 40 < s.size
  · have hd1 : decide ((40 : Int) < (s.size : Int)) = true := decide_eq_true (by omega)
    have hd2 : decide (40 < s.size) = true := decide_eq_true h40
    have HF := Lib.hid (Tx.pa_long h40)
    clear h40
    go_wp2_with fail
    go_ret2
    exact ⟨⟨_, [], false, rfl, HF.out, Ow.of_own Sl.cells_len hf rfl rfl⟩, hbr⟩
  have hd1 : decide ((40 : Int) < (s.size : Int)) = false := decide_eq_false (by omega)
  have hd2 : decide (40 < s.size) = false := decide_eq_false h40
  by_cases h4 : nW = 4
  rotate_left
  · have he1 : ((nW : Int) != 4) = true := by rw [bne_iff_ne]; omega
    have he2 : (nW != 4) = true := by rw [bne_iff_ne]; exact h4
    have he3 : (nW == 4) = false := by rw [beq_eq_false_iff_ne]; exact h4
    have HF := Lib.hid (Tx.pa_count HW.out (by rw [← HN.out]; exact h4))
    clear h4
    go_wp2_with fail
    go_ret2
    exact ⟨⟨_, [], false, rfl, HF.out, Ow.of_own Sl.cells_len hf rfl rfl⟩, hbr⟩
  have he1 : ((nW : Int) != 4) = false := by rw [bne_eq_false_iff_eq]; omega
  have he2 : (nW != 4) = false := by rw [bne_eq_false_iff_eq]; exact h4
  have he3 : (nW == 4) = true := by rw [beq_iff_eq]; exact h4
  have hn1 : nW ≤ 4 := by omega
  have hn2 : 4 ≤ nW := by omega
  have hs40 : s.size ≤ 40 := by omega
  clear h4 h40 hs
  go_wp2_with fail
  go_loopw [4, 6] (fun v4 v6 wr => ∃ (k : Nat) (outs : List Sl), k ≤ nW ∧ v6 = .int .i64 k ∧ Hid (outs.length = k ∧ Tx.Pre s k outs) ∧ Below w.heap.size w wr ∧ wr.ownsRow w.heap.size 37 3 v4 k (outs.flatMap Sl.cells) ∧ Ow St.cells 1 9 wr w0.heap.size wr.heap.size (.slice AW nW cW) W) (fun _ i _ => nW - (intOf i).toNat)
  case atStart => exact ⟨0, [], Nat.zero_le _, rfl, Lib.hid ⟨rfl, Tx.Pre.start s⟩, hbr, hf, oW⟩
  case round =>
    clear hf oW hbr
    obtain ⟨k, outs, hk, rfl, HP, hbr, hf, oW⟩ := hrel
    have hbs := hbr.size
    by_cases hlt : k < nW
    · obtain ⟨b, off, wd, rfl, hwd, hbl0, hbl, f0⟩ := St.get oW.rd hlt (Below.refl wr.heap.size wr) (by omega)
      have hws : wd.size ≤ 40 := Nat.le_trans (Tx.split_size HW.out hwd.out) hs40
      have hbx := (Below.refl wr.heap.size wr).alloc (Nat.le_refl _) (.cells #[.int .i64 0, .int .i64 0, .int .i64 0] 37)
      have bx := Box.new wr #[.int .i64 0, .int .i64 0, .int .i64 0] 37 rfl
      have hf2 := hf.alloc (.cells #[.int .i64 0, .int .i64 0, .int .i64 0] 37)
      have hne : u4.ownBlock ≠ some wr.heap.size := fun e => by have := (hf.lt _ e).2; omega
      go_upto_region 9 with fail
      replace hbr := hbr.trans (hbx.mono hbs)
      replace oW := oW.below hbx (by omega)
      have z1 := hbx.size
      replace f0 := (hbx.cell (p := ⟨b, off + k, none⟩) hbl).trans f0
      clear hf hbx
      have hf := hf2
      clear hf2
      generalize wr.alloc _ = w2 at hf hbr oW bx z1 f0 ⊢
      generalize hgg : wr.heap.size = g at hbs bx hne z1 hbl oW ⊢
      clear hgg
      have gl2 := bx.lt
      have c2 : Calls Tryd.prog 20 #[.string wd, .int .u8 58] w2 _ := l1Split_any wd 58 w2 (by omega)
      go_wp2_with fail
      refine c2.mono ?_; rintro q_ w3 ⟨vS, S, rfl, hSl, HS0, oS, b3⟩
      clear c2 f0 hSl
      have HS : Hid (S.map (·.data.toList) = Tx.split 58 wd.data.toList) := HS0
      clear HS0
      replace oW := oW.below b3 (by omega)
      have hf := own_below hf b3
      replace hbr := hbr.trans (b3.mono hbr.size)
      replace bx := bx.below b3 bx.lt
      have z3 := b3.size
      clear b3
      have gl := bx.lt
      obtain ⟨AS, nS, cS, rfl, HNS, hcS, hmS⟩ := oS.form
      by_cases h2 : nS = 2
      rotate_left
      · have he1 : ((nS : Int) == 2) = false := by rw [beq_eq_false_iff_ne]; omega
        have he2 : (nS == 2) = false := by rw [beq_eq_false_iff_ne]; exact h2
        have HX := Lib.hid (Tx.wd_none HS.out (fun a b e => by exfalso; apply h2; rw [HNS.out, e]; rfl))
        clear h2
        have x0 := bx.cell (j := 0) rfl
        have x1 := bx.cell (j := 1) rfl
        have x2 := bx.cell (j := 2) rfl
        have xz := bx.frozen
        have xl := bx.lt
        have oL := hf.alloc (.cells #[.int .i64 0, .int .i64 0, .int .i64 0] 37)
        have hbL := hbr.alloc (by omega) (.cells #[.int .i64 0, .int .i64 0, .int .i64 0] 37)
        have oWL := oW.below ((Below.refl w3.heap.size w3).alloc (Nat.le_refl _) (.cells #[.int .i64 0, .int .i64 0, .int .i64 0] 37)) (by omega)
        have HP2 := Lib.hid (show (outs ++ [(⟨0, 0, 0⟩ : Sl)]).length = k + 1 ∧ Tx.Pre s (k + 1) (outs ++ [⟨0, 0, 0⟩]) from ⟨by rw [List.length_append, HP.out.1]; rfl, HP.out.2.succ HW.out hwd.out HX.out⟩)
        go_wp2_with (at_builtin; (refine Sl.app_one rfl _ _ rfl w.heap.size u4 k _ rfl oL (g := w3.heap.size) (c := 1) ⟨0, 0, 0⟩ rfl (fun j u hu => cell_new _ _ _ rfl (by simpa [Sl.cells] using hu)) (by omega) (by simp; omega) ?_); (intro v8 w8 o8 g8))
        go_roundw
        case rel =>
          refine ⟨k + 1, outs ++ [⟨0, 0, 0⟩], by omega, by go_num, HP2, hbL.grown g8 (by simp; omega) (fun q e => (oL.lt q e).1), ?_, ?_⟩
          · rw [List.flatMap_append]
            simpa using o8
          · exact (oWL.grown_own oL g8 (by decide)).mono (Nat.le_refl _) (by have := g8.size; simp at this; omega)
        case measure => simp [intOf]; omega
      have h2a : 0 < nS := by omega
      have h2b : 1 < nS := by omega
      have he1 : ((nS : Int) == 2) = true := by rw [beq_iff_eq]; omega
      have he2 : (nS == 2) = true := by rw [beq_iff_eq]; exact h2
      obtain ⟨bS, oSf, a, hAS, ha, hbS0, hbS, fa⟩ := St.get oS.rd h2a (Below.refl w3.heap.size w3) (by omega)
      obtain ⟨bS', oSf', b', hAS', hb', _, _, fb⟩ := St.get oS.rd h2b (Below.refl w3.heap.size w3) (by omega)
      subst hAS
      injection hAS' with hAS'
      injection hAS' with e1 e2
      subst e1; subst e2
      rw [Nat.add_zero] at fa
      have HSab : Hid (S = [a, b'] ∧ Tx.split 58 wd.data.toList = [a.data.toList, b'.data.toList]) := Lib.hid (by
        have hS2 : S.length = 2 := by rw [← HNS.out]; exact h2
        have h3 := ha.out
        have h4 := hb'.out
        have hSe : S = [a, b'] := by
          cases S with
          | nil => simp at hS2
          | cons x S =>
            cases S with
            | nil => simp at hS2
            | cons y S =>
              cases S with
              | cons z S => simp at hS2
              | nil => simp at h3 h4; rw [h3, h4]
        exact ⟨hSe, by rw [← HS.out, hSe]; rfl⟩)
      have has : a.size ≤ 40 := Nat.le_trans (Tx.split_size HS.out ha.out) hws
      have hbs' : b'.size ≤ 40 := Nat.le_trans (Tx.split_size HS.out hb'.out) hws
      clear h2 ha hb' HNS HS
      by_cases ha2 : a.size = 2
      rotate_left
      · have he3 : ((a.size : Int) == 2) = false := by rw [beq_eq_false_iff_ne]; omega
        have he4 : (a.size == 2) = false := by rw [beq_eq_false_iff_ne]; exact ha2
        have HX := Lib.hid (Tx.wd_none (S := [a, b']) HSab.out.2.symm (fun x y e => by injection e with e _; rw [← e]; exact ha2))
        clear ha2
        have x0 := bx.cell (j := 0) rfl
        have x1 := bx.cell (j := 1) rfl
        have x2 := bx.cell (j := 2) rfl
        have xz := bx.frozen
        have xl := bx.lt
        have oL := hf.alloc (.cells #[.int .i64 0, .int .i64 0, .int .i64 0] 37)
        have hbL := hbr.alloc (by omega) (.cells #[.int .i64 0, .int .i64 0, .int .i64 0] 37)
        have oWL := oW.below ((Below.refl w3.heap.size w3).alloc (Nat.le_refl _) (.cells #[.int .i64 0, .int .i64 0, .int .i64 0] 37)) (by omega)
        have HP2 := Lib.hid (show (outs ++ [(⟨0, 0, 0⟩ : Sl)]).length = k + 1 ∧ Tx.Pre s (k + 1) (outs ++ [⟨0, 0, 0⟩]) from ⟨by rw [List.length_append, HP.out.1]; rfl, HP.out.2.succ HW.out hwd.out HX.out⟩)
        go_wp2_with (at_builtin; (refine Sl.app_one rfl _ _ rfl w.heap.size u4 k _ rfl oL (g := w3.heap.size) (c := 1) ⟨0, 0, 0⟩ rfl (fun j u hu => cell_new _ _ _ rfl (by simpa [Sl.cells] using hu)) (by omega) (by simp; omega) ?_); (intro v8 w8 o8 g8))
        go_roundw
        case rel =>
          refine ⟨k + 1, outs ++ [⟨0, 0, 0⟩], by omega, by go_num, HP2, hbL.grown g8 (by simp; omega) (fun q e => (oL.lt q e).1), ?_, ?_⟩
          · rw [List.flatMap_append]
            simpa using o8
          · exact (oWL.grown_own oL g8 (by decide)).mono (Nat.le_refl _) (by have := g8.size; simp at this; omega)
        case measure => simp [intOf]; omega
      have he3 : ((a.size : Int) == 2) = true := by rw [beq_iff_eq]; omega
      have he4 : (a.size == 2) = true := by rw [beq_iff_eq]; exact ha2
      have ha0 : 0 < a.size := by omega
      have ha1 : (1 : Int) ≤ (a.size : Int) := by omega
      have hxc : a.data.toList[0]? = some (a[0]'ha0) := by
        rw [List.getElem?_eq_getElem (by rw [← Lib.size_eq]; exact ha0)]; rfl
      have HC := Lib.hid hxc
      clear hxc
      generalize hc : a[0]'ha0 = c at *
      clear ha2
      go_wp2_with fail
      go_loopw [9] (fun v9 wr => ∃ kk : Nat, 1 ≤ kk ∧ kk ≤ 4 ∧ v9 = .int .i64 kk ∧ w3.grownBy wr (some g) ∧ Box wr g 37 [.int .i64 (Tx.stUp c kk), .int .i64 0, .int .i64 0]) (fun i _ => 4 - (intOf i).toNat)
      case atStart => exact ⟨1, Nat.le_refl _, by omega, rfl, World.grownBy.refl w3 _, by rw [Tx.stUp_1]; exact bx⟩
      case round =>
        obtain ⟨kk, hk1, hk4, rfl, gq, bq⟩ := hrel
        have zq := gq.size
        have fq : wr.cell? ⟨bS, oSf, none⟩ = some (.string a) := (World.cell?_of_block (a := ⟨bS, oSf, none⟩) (gq.block bS hbS (fun e => by injection e with e; omega))).trans fa
        by_cases hk3 : kk ≤ 3
        · clear hf hbr oW bx fa fb
          rcases (show kk = 1 ∨ kk = 2 ∨ kk = 3 by omega) with rfl | rfl | rfl
          · by_cases hq : c = 112
            · have hc2 : ((((ByteArray.mk #[45, 112, 97, 98])[1]'(by decide)).toNat : Int) == (c.toNat : Int)) = true := by rw [hq]; rfl
              have HU := Lib.hid (Tx.stUp_yes (c := c) (k := 1) ((Tx.stOf_is c).1.1 hq))
              clear hq
              go_wp2_with fail
              go_quiet (fail)
              have bq2 := bq.drewN nq
              have gq2 := Tx.grown_drewN gq nq
              generalize wr.drewN nq = wd at bq2 gq2 ⊢
              have x0 := bq2.cell (j := 0) rfl
              have xz := bq2.frozen
              have xl := bq2.lt
              go_wp2_with fail
              generalize hwz : World.setCell _ _ _ = wz_
              obtain rfl : wz_ = setL wd g 0 [.int .i64 1] := hwz.symm
              clear hwz
              go_roundw
              case rel => exact ⟨2, by omega, by omega, rfl, grown_trans gq2 (setL_grown _ _ _ _), by rw [show Tx.stUp c 2 = 1 from HU.out]; exact bq2.set1 (j := 0) (.int .i64 1) (by simp)⟩
              case measure => simp [intOf]
            · have hc2 : ((((ByteArray.mk #[45, 112, 97, 98])[1]'(by decide)).toNat : Int) == (c.toNat : Int)) = false := by
                rw [beq_eq_false_iff_ne]; intro e
                have e : ((112 : Nat) : Int) = (c.toNat : Int) := e
                exact hq (UInt8.toNat_inj.1 (by show c.toNat = 112; omega))
              have HU := Lib.hid (Tx.stUp_no (c := c) (k := 1) (fun e => hq ((Tx.stOf_is c).1.2 e)))
              clear hq
              go_wp2_with fail
              go_quiet (fail)
              have bq2 := bq.drewN nq
              have gq2 := Tx.grown_drewN gq nq
              generalize wr.drewN nq = wd at bq2 gq2 ⊢
              go_wp2_with fail
              go_roundw
              case rel => exact ⟨2, by omega, by omega, rfl, gq2, by rw [show Tx.stUp c 2 = Tx.stUp c 1 from HU.out]; exact bq2⟩
              case measure => simp [intOf]
          · by_cases hq : c = 97
            · have hc2 : ((((ByteArray.mk #[45, 112, 97, 98])[2]'(by decide)).toNat : Int) == (c.toNat : Int)) = true := by rw [hq]; rfl
              have HU := Lib.hid (Tx.stUp_yes (c := c) (k := 2) ((Tx.stOf_is c).2.1.1 hq))
              clear hq
              go_wp2_with fail
              go_quiet (fail)
              have bq2 := bq.drewN nq
              have gq2 := Tx.grown_drewN gq nq
              generalize wr.drewN nq = wd at bq2 gq2 ⊢
              have x0 := bq2.cell (j := 0) rfl
              have xz := bq2.frozen
              have xl := bq2.lt
              go_wp2_with fail
              generalize hwz : World.setCell _ _ _ = wz_
              obtain rfl : wz_ = setL wd g 0 [.int .i64 2] := hwz.symm
              clear hwz
              go_roundw
              case rel => exact ⟨3, by omega, by omega, rfl, grown_trans gq2 (setL_grown _ _ _ _), by rw [show Tx.stUp c 3 = 2 from HU.out]; exact bq2.set1 (j := 0) (.int .i64 2) (by simp)⟩
              case measure => simp [intOf]
            · have hc2 : ((((ByteArray.mk #[45, 112, 97, 98])[2]'(by decide)).toNat : Int) == (c.toNat : Int)) = false := by
                rw [beq_eq_false_iff_ne]; intro e
                have e : ((97 : Nat) : Int) = (c.toNat : Int) := e
                exact hq (UInt8.toNat_inj.1 (by show c.toNat = 97; omega))
              have HU := Lib.hid (Tx.stUp_no (c := c) (k := 2) (fun e => hq ((Tx.stOf_is c).2.1.2 e)))
              clear hq
              go_wp2_with fail
              go_quiet (fail)
              have bq2 := bq.drewN nq
              have gq2 := Tx.grown_drewN gq nq
              generalize wr.drewN nq = wd at bq2 gq2 ⊢
              go_wp2_with fail
              go_roundw
              case rel => exact ⟨3, by omega, by omega, rfl, gq2, by rw [show Tx.stUp c 3 = Tx.stUp c 2 from HU.out]; exact bq2⟩
              case measure => simp [intOf]
          · by_cases hq : c = 98
            · have hc2 : ((((ByteArray.mk #[45, 112, 97, 98])[3]'(by decide)).toNat : Int) == (c.toNat : Int)) = true := by rw [hq]; rfl
              have HU := Lib.hid (Tx.stUp_yes (c := c) (k := 3) ((Tx.stOf_is c).2.2.1 hq))
              clear hq
              go_wp2_with fail
              go_quiet (fail)
              have bq2 := bq.drewN nq
              have gq2 := Tx.grown_drewN gq nq
              generalize wr.drewN nq = wd at bq2 gq2 ⊢
              have x0 := bq2.cell (j := 0) rfl
              have xz := bq2.frozen
              have xl := bq2.lt
              go_wp2_with fail
              generalize hwz : World.setCell _ _ _ = wz_
              obtain rfl : wz_ = setL wd g 0 [.int .i64 3] := hwz.symm
              clear hwz
              go_roundw
              case rel => exact ⟨4, by omega, by omega, rfl, grown_trans gq2 (setL_grown _ _ _ _), by rw [show Tx.stUp c 4 = 3 from HU.out]; exact bq2.set1 (j := 0) (.int .i64 3) (by simp)⟩
              case measure => simp [intOf]
            · have hc2 : ((((ByteArray.mk #[45, 112, 97, 98])[3]'(by decide)).toNat : Int) == (c.toNat : Int)) = false := by
                rw [beq_eq_false_iff_ne]; intro e
                have e : ((98 : Nat) : Int) = (c.toNat : Int) := e
                exact hq (UInt8.toNat_inj.1 (by show c.toNat = 98; omega))
              have HU := Lib.hid (Tx.stUp_no (c := c) (k := 3) (fun e => hq ((Tx.stOf_is c).2.2.2 e)))
              clear hq
              go_wp2_with fail
              go_quiet (fail)
              have bq2 := bq.drewN nq
              have gq2 := Tx.grown_drewN gq nq
              generalize wr.drewN nq = wd at bq2 gq2 ⊢
              go_wp2_with fail
              go_roundw
              case rel => exact ⟨4, by omega, by omega, rfl, gq2, by rw [show Tx.stUp c 4 = Tx.stUp c 3 from HU.out]; exact bq2⟩
              case measure => simp [intOf]
        · obtain rfl : kk = 4 := by omega
          rw [Tx.stUp_4] at bq
          replace fb := (World.cell?_of_block (a := ⟨bS, oSf + 1, none⟩) (gq.block bS hbS (fun e => by injection e with e; omega))).trans fb
          replace hf := hf.kept gq (.inr hne)
          replace hbr := hbr.grown gq (by omega) (fun q e => by injection e with e; omega)
          replace oW := oW.keep (w' := wr) (fun q h1 h2 h3 => gq.block q h3 (fun e => by injection e with e; omega))
          clear bx fa gq
          have bx := bq
          clear bq
          have gl := bx.lt
          obtain ⟨A1, hA1⟩ : ∃ T, a.extract 1 a.size = T := ⟨_, rfl⟩
          have hA1s : A1.size ≤ 40 := by rw [← hA1, ByteArray.size_extract]; omega
          have c3 := l1Read_any A1 wr (by omega)
          go_wp2_with fail
          refine c3.mono ?_; rintro q_ w_ ⟨⟨n1, k1, rfl, hR1⟩, m1, rfl⟩
          have HR1 := Lib.hid hR1
          clear hR1 c3 fq
          replace hf : (wr.drewN m1).ownsRow w.heap.size 37 3 u4 k (outs.flatMap Sl.cells) := hf
          replace hbr := below_drewN hbr m1
          replace oW := oW.keep (w' := wr.drewN m1) (fun _ _ _ _ => rfl)
          replace bx := bx.drewN m1
          replace fb : (wr.drewN m1).cell? ⟨bS, oSf + 1, none⟩ = some (.string b') := fb
          have glw5 := bx.lt
          generalize wr.drewN m1 = w5 at hf hbr oW bx glw5 fb ⊢
          have x0 := bx.cell (j := 0) rfl
          have x1 := bx.cell (j := 1) rfl
          have x2 := bx.cell (j := 2) rfl
          have xz := bx.frozen
          have xl := bx.lt
          go_upto_region 17 with fail
          clear x0 x1 x2 xz xl
          generalize hwz : World.setCell _ _ _ = wz_
          obtain rfl : wz_ = setL w5 g 1 [.int .i64 n1] := hwz.symm
          clear hwz
          replace hf := hf.kept (setL_grown [.int .i64 n1] w5 g 1) (.inr hne)
          replace hbr := setL_below hbr [.int .i64 n1] g 1 (by omega)
          replace oW := oW.keep (w' := setL w5 g 1 [.int .i64 n1]) (fun q h1 h2 _ => setL_other _ _ _ _ q (by omega))
          replace fb := (World.cell?_of_block (a := ⟨bS, oSf + 1, none⟩) (setL_other [.int .i64 n1] w5 g 1 bS (by omega))).trans fb
          replace bx : Box (setL w5 g 1 [.int .i64 n1]) g 37 [.int .i64 (Tx.stOf c), .int .i64 n1, .int .i64 0] := bx.set1 (j := 1) (.int .i64 n1) (by simp)
          have zs1 : (setL w5 g 1 [.int .i64 n1]).heap.size = w5.heap.size := setL_size _ _ _ _
          have gl1 := bx.lt
          have zt1 : w5.heap.size ≤ (setL w5 g 1 [.int .i64 n1]).heap.size := by omega
          clear zs1
          generalize setL w5 _ _ _ = w6 at hf hbr oW bx zt1 gl1 fb ⊢
          have c3 := l1Read_any b' w6 (by omega)
          go_wp2_with fail
          refine c3.mono ?_; rintro q_ w_ ⟨⟨n2, k2, rfl, hR2⟩, m2, rfl⟩
          have HX := Lib.hid (Tx.wd_spec HSab.out.2 HC.out (by rw [hA1]; exact HR1.out) hR2)
          clear hR2 c3
          replace hf : (w6.drewN m2).ownsRow w.heap.size 37 3 u4 k (outs.flatMap Sl.cells) := hf
          replace hbr := below_drewN hbr m2
          replace oW := oW.keep (w' := w6.drewN m2) (fun _ _ _ _ => rfl)
          replace bx := bx.drewN m2
          have glw7 := bx.lt
          generalize w6.drewN m2 = w7 at hf hbr oW bx glw7 ⊢
          have x0 := bx.cell (j := 0) rfl
          have x1 := bx.cell (j := 1) rfl
          have x2 := bx.cell (j := 2) rfl
          have xz := bx.frozen
          have xl := bx.lt
          go_upto_region 18 with fail
          clear x0 x1 x2 xz xl
          generalize hwz : World.setCell _ _ _ = wz_
          obtain rfl : wz_ = setL w7 g 2 [.int .i64 n2] := hwz.symm
          clear hwz
          replace hf := hf.kept (setL_grown [.int .i64 n2] w7 g 2) (.inr hne)
          replace hbr := setL_below hbr [.int .i64 n2] g 2 (by omega)
          replace oW := oW.keep (w' := setL w7 g 2 [.int .i64 n2]) (fun q h1 h2 _ => setL_other _ _ _ _ q (by omega))
          replace bx : Box (setL w7 g 2 [.int .i64 n2]) g 37 [.int .i64 (Tx.stOf c), .int .i64 n1, .int .i64 n2] := bx.set1 (j := 2) (.int .i64 n2) (by simp)
          have zs2 : (setL w7 g 2 [.int .i64 n2]).heap.size = w7.heap.size := setL_size _ _ _ _
          have gl2 := bx.lt
          have zt2 : w7.heap.size ≤ (setL w7 g 2 [.int .i64 n2]).heap.size := by omega
          clear zs2
          generalize setL w7 _ _ _ = w9 at hf hbr oW bx zt2 gl2 ⊢
          have x0 := bx.cell (j := 0) rfl
          have x1 := bx.cell (j := 1) rfl
          have x2 := bx.cell (j := 2) rfl
          have xz := bx.frozen
          have xl := bx.lt
          have oL := hf.alloc (.cells #[.int .i64 (Tx.stOf c), .int .i64 n1, .int .i64 n2] 37)
          have hbL := hbr.alloc (by omega) (.cells #[.int .i64 (Tx.stOf c), .int .i64 n1, .int .i64 n2] 37)
          have oWL := oW.below ((Below.refl w9.heap.size w9).alloc (Nat.le_refl _) (.cells #[.int .i64 (Tx.stOf c), .int .i64 n1, .int .i64 n2] 37)) (by omega)
          have HP2 := Lib.hid (show (outs ++ [(⟨(Tx.stOf c), n1, n2⟩ : Sl)]).length = k + 1 ∧ Tx.Pre s (k + 1) (outs ++ [⟨(Tx.stOf c), n1, n2⟩]) from ⟨by rw [List.length_append, HP.out.1]; rfl, HP.out.2.succ HW.out hwd.out HX.out⟩)
          go_wp2_with (at_builtin; (refine Sl.app_one rfl _ _ rfl w.heap.size u4 k _ rfl oL (g := w9.heap.size) (c := 1) ⟨(Tx.stOf c), n1, n2⟩ rfl (fun j u hu => cell_new _ _ _ rfl (by simpa [Sl.cells] using hu)) (by omega) (by simp; omega) ?_); (intro v8 w8 o8 g8))
          go_roundw
          case rel =>
            refine ⟨k + 1, outs ++ [⟨(Tx.stOf c), n1, n2⟩], by omega, by go_num, HP2, hbL.grown g8 (by simp; omega) (fun q e => (oL.lt q e).1), ?_, ?_⟩
            · rw [List.flatMap_append]
              simpa using o8
            · exact (oWL.grown_own oL g8 (by decide)).mono (Nat.le_refl _) (by have := g8.size; simp at this; omega)
          case measure => simp [intOf]; omega
    · obtain rfl : k = nW := by omega
      have HP4 := Lib.hid (show Tx.Pre s 4 outs from by have := HP.out.2; rwa [show k = 4 by omega] at this)
      have oT := Ow.of_own Sl.cells_len hf rfl HP.out.1.symm
      have c1 := l8Good_any _ outs wr oT.rd (Nat.le_refl _)
      have c2 := fun W (b : Below wr.heap.size wr W) hg => l8Text_any _ outs W (oT.rd.below b (Nat.le_refl _)) b.size hg
      clear HP
      cases hg : Sl.good outs
      · rw [hg] at c1
        have HF := Lib.hid (HP4.out.bad hg)
        clear hg c2 HP4
        go_wp2_with fail
        refine c1.mono ?_; rintro q_ w9 ⟨rfl, b9⟩
        clear c1
        have hbe := hbr.trans (b9.mono hbs)
        have zz := hbe.size
        have oE := own_empty w9 (base := w.heap.size) 37 3 zz
        go_wp2_with fail
        go_ret2
        exact ⟨⟨_, [], false, rfl, HF.out, Ow.of_own Sl.cells_len oE rfl rfl⟩, hbe.alloc zz _⟩
      · rw [hg] at c1
        obtain ⟨T, hT⟩ : ∃ T : ByteArray, T = ⟨(Tx.text outs).toArray⟩ := ⟨_, rfl⟩
        rw [← hT] at c2
        have c2 := fun W b => c2 W b hg
        have HT := Lib.hid hT
        have HG := Lib.hid hg
        clear hT hg
        go_wp2_with fail
        refine c1.mono ?_; rintro q_ w9 ⟨rfl, b9⟩
        clear c1
        have hbe := hbr.trans (b9.mono hbs)
        have oTe := oT.below b9 (Nat.le_refl _)
        have c3 := c2 _ b9
        go_wp2_with fail
        refine c3.mono ?_; rintro q_ w_ ⟨rfl, m, rfl⟩
        clear c2 c3
        have hbe2 := below_drewN hbe m
        have zz := hbe2.size
        have oTe2 := oTe.keep (w' := w9.drewN m) (fun _ _ _ _ => rfl)
        have hle : wr.heap.size ≤ (w9.drewN m).heap.size := b9.size
        generalize w9.drewN m = we at hbe2 zz oTe2 hle ⊢
        cases hq : (T.toList == s.toList)
        · have HF := Lib.hid (HP4.out.other HT.out hq)
          have oE := own_empty we (base := w.heap.size) 37 3 zz
          go_wp2_with fail
          go_ret2
          exact ⟨⟨_, [], false, rfl, HF.out, Ow.of_own Sl.cells_len oE rfl rfl⟩, hbe2.alloc zz _⟩
        · have HF := Lib.hid (Tx.pa_yes HG.out HT.out hq)
          go_wp2_with fail
          go_ret2
          exact ⟨⟨_, outs, true, rfl, HF.out, oTe2.mono (Nat.le_refl _) hle⟩, hbe2⟩

end Go.Proofs.YtaggjadgbmmjoaaDoor
