/- Reading slots from a text, in the program. Conditions: at most 1048576 bytes; the library's variables read as they are laid. -/
import Derived.Test.YtaggjadgbmmjoaaDoorTxF
import Derived.Test.YtaggjadgbmmjoaaDoorTxH
import Derived.Test.YtaggjadgbmmjoaaDoorTxP
import Derived.Test.YtaggjadgbmmjoaaDoorSlAre
namespace Go.Proofs.YtaggjadgbmmjoaaDoor
open Go.RowKit Go.ChangeShapes Go.WideShapes Go.Deep

theorem Tx.cut_len (l p : List UInt8) : (Lib.cut l p).1.length ≤ l.length ∧ (Lib.cut l p).2.1.length ≤ l.length := by
  unfold Lib.cut
  split
  · simp only [List.length_take, List.length_drop]; omega
  · simp
theorem split_any (s : ByteArray) (b : UInt8) (w : World) (hs : s.size ≤ 1048576) (hE : Tx.Env w) :
    Calls Tryd.prog 22 #[.string s, .string ⟨#[b]⟩] w fun e w' => ∃ v, ∃ W : List ByteArray, e = .returned v ∧ Hid (W.map (·.data.toList) = Tx.split b s.data.toList) ∧ Ow St.cells 1 9 w' w.heap.size w'.heap.size v W ∧ Below w.heap.size w w' := by
  obtain ⟨_, _, m, hm⟩ := hE
  refine (Any.strings_Split { laysSplit with } laysSplit.i9 s ⟨#[b]⟩ m w (by omega) hm (Nat.le_refl 1)).mono fun e w' ⟨he, hw⟩ => ?_
  have hle := Lib.countB_le ⟨#[b]⟩ (Nat.le_refl 1) s.size s (Nat.le_refl _)
  have hlen := Lib.splitB_all ⟨#[b]⟩ (Nat.le_refl 1) 0 _ s rfl
  refine ⟨_, Lib.splitB ⟨#[b]⟩ 0 (Lib.countB s ⟨#[b]⟩) s, he, Lib.hid (Tx.splitB_eq s b), ?_, by rw [hw]; exact (Below.refl w.heap.size w).alloc (Nat.le_refl _) _⟩
  subst hw
  generalize hL : Lib.splitB ⟨#[b]⟩ 0 (Lib.countB s ⟨#[b]⟩) s = L at hlen ⊢
  refine ⟨some ⟨w.heap.size, 0, none⟩, L.length, by rw [hlen], Nat.le_refl _, by unfold maxLen; omega, fun _ => ⟨w.heap.size, 0, (L.map Value.string).toArray, rfl, Nat.le_refl _, by simp, by rw [heap_alloc_new]; rfl, by simp, fun i x hi j u hu => ?_⟩⟩
  match j with
  | 0 =>
    obtain rfl : u = .string x := (Option.some.inj hu).symm
    simp [hi]
  | j + 1 => simp [St.cells] at hu
theorem cut_any (s : ByteArray) (w : World) (hs : s.size ≤ 1048576) (hE : Tx.Env w) :
    Calls Tryd.prog 24 #[.string s, .string ⟨#[58]⟩] w fun e w' => ∃ (A B : ByteArray) (ok : Bool), e = .returned (.tuple #[.string A, .string B, .bool ok]) ∧ Hid (A.data.toList = (Lib.cut s.data.toList [58]).1 ∧ B.data.toList = (Lib.cut s.data.toList [58]).2.1) ∧ A.size ≤ s.size ∧ B.size ≤ s.size ∧ ∃ n, w' = w.drewN n := by
  obtain ⟨_, _, m, hm⟩ := hE
  refine (Any.strings_Cut { laysCut with } s ⟨#[58]⟩ m w (by omega) hm).mono fun e w' ⟨he, hw⟩ => ?_
  have hc := Tx.cut_len s.data.toList [58]
  have hz := Lib.size_eq s
  exact ⟨_, _, _, he, Lib.hid ⟨rfl, rfl⟩, by rw [mk_size]; exact hz ▸ hc.1, by rw [mk_size]; exact hz ▸ hc.2, hw⟩
theorem index_any (c : UInt8) (w : World) : Calls Tryd.prog 23 #[.string ⟨#[45, 112, 97, 98]⟩, .int .u8 (c.toNat : Int)] w fun e w' => e = .returned (.int .i64 (Lib.indexByte [45, 112, 97, 98] c)) ∧ w = w' := by
  refine (Any.strings_IndexByte laysIndexByte ⟨#[45, 112, 97, 98]⟩ (c.toNat : Int) w).mono fun e w' ⟨he, hw⟩ => ⟨?_, hw.symm⟩
  rw [he, show ((c.toNat : Int).toNat.toUInt8) = c by simp]

set_option maxRecDepth 8000 in
set_option maxHeartbeats 8000000 in
theorem implParseSlots_any (s : ByteArray) (w : World) (hs : s.size ≤ 1048576) (hE : Tx.Env w) :
    Calls Tryd.prog 11 #[.string s] w fun e w' => Tx.PaE s w w' e ∧ Below w.heap.size w w' := by
  have c1 := split_any s 32 w hs hE
  go_enter Tryd.func11, Tryd.ntmps11
  go_wp2_with fail
  refine c1.mono ?_; rintro q_ w1 ⟨vW, W, rfl, HW, oW, hbr⟩
  clear c1
  have zw1 := hbr.size
  obtain ⟨AW, nW, cW, rfl, HN, hcW, hmW⟩ := oW.form
  by_cases h4 : nW = 4
  rotate_left
  · have he1 : ((nW : Int) != 4) = true := by rw [bne_iff_ne]; omega
    have he2 : (nW != 4) = true := by rw [bne_iff_ne]; exact h4
    have he3 : (nW == 4) = false := by rw [beq_eq_false_iff_ne]; exact h4
    have HF := Lib.hid (Tx.pa_count HW.out (by rw [← HN.out]; exact h4))
    clear h4
    go_wp2_with fail
    go_ret2
    exact ⟨⟨_, [], false, rfl, HF.out, Ow.nil_⟩, hbr⟩
  have he1 : ((nW : Int) != 4) = false := by rw [bne_eq_false_iff_eq]; omega
  have he2 : (nW != 4) = false := by rw [bne_eq_false_iff_eq]; exact h4
  have he3 : (nW == 4) = true := by rw [beq_iff_eq]; exact h4
  have hn1 : nW ≤ 4 := by omega
  have hn2 : 4 ≤ nW := by omega
  clear h4
  go_upto_region 5 with fail
  have hb0 := hbr.alloc zw1 (.cells #[] 37)
  have oW0 := oW.below ((Below.refl w1.heap.size w1).alloc (Nat.le_refl _) (.cells #[] 37)) (Nat.le_refl _)
  have hf0 := own_empty w1 (base := w.heap.size) 37 3 zw1
  have zz : w1.heap.size ≤ (w1.alloc (.cells #[] 37)).heap.size := by simp
  generalize w1.alloc _ = w2 at hb0 oW0 hf0 zz ⊢
  clear hbr oW
  go_wp2_with fail
  go_loopw [5, 24] (fun v5 v24 wr => ∃ (k : Nat) (outs : List Sl), k ≤ nW ∧ v24 = .int .i64 k ∧ Hid (outs.length = k ∧ Tx.Pre s k outs) ∧ Below w.heap.size w wr ∧ wr.ownsRow w.heap.size 37 3 v5 k (outs.flatMap Sl.cells) ∧ Ow St.cells 1 9 wr w.heap.size wr.heap.size (.slice AW nW cW) W) (fun _ i _ => nW - (intOf i).toNat)
  case atStart => exact ⟨0, [], Nat.zero_le _, rfl, Lib.hid ⟨rfl, Tx.Pre.start s⟩, hb0, hf0, oW0.mono (Nat.le_refl _) zz⟩
  case round =>
    clear hf0 oW0 hb0
    obtain ⟨k, outs, hk, rfl, HP, hbr, hf, oW⟩ := hrel
    have hbs := hbr.size
    by_cases hlt : k < nW
    · obtain ⟨b, off, wd, rfl, hwd, hbl0, hbl, f0⟩ := St.get oW.rd hlt (Below.refl wr.heap.size wr) (by omega)
      have hws : wd.size ≤ 1048576 := Nat.le_trans (Tx.split_size HW.out hwd.out) hs
      by_cases hw0 : wd.size = 0
      · have hwe : wd.data.toList = [] := List.length_eq_zero_iff.1 (by rw [← Lib.size_eq]; exact hw0)
        have hq1 : wd.toList.isEmpty = true := by rw [Lib.toList_data, hwe]; rfl
        have HF := Lib.hid (Tx.pa_un HW.out hwd.out (Tx.un_empty hwe))
        clear hw0 hwe
        go_wp2_with fail
        go_ret2
        exact ⟨⟨_, [], false, rfl, HF.out, Ow.nil_⟩, hbr⟩
      have hw1 : 0 < wd.size := by omega
      have hw2 : (1 : Int) ≤ (wd.size : Int) := by omega
      have hq1 : wd.toList.isEmpty = false := by
        rw [Bool.eq_false_iff]; intro e
        rw [List.isEmpty_iff, Lib.toList_data] at e
        have e3 := Lib.size_eq wd
        rw [e] at e3
        exact hw0 e3
      have hxc : wd.data.toList[0]? = some (wd[0]'hw1) := by
        rw [List.getElem?_eq_getElem (by rw [← Lib.size_eq]; exact hw1)]; rfl
      have HC := Lib.hid hxc
      clear hxc hw0
      generalize hc : wd[0]'hw1 = c at *
      have c2 := index_any c wr
      generalize hix : Lib.indexByte [45, 112, 97, 98] c = ix at c2
      have HI := Lib.hid hix
      clear hix
      go_wp2_with fail
      refine c2.mono ?_; rintro q_ w_ ⟨rfl, rfl⟩
      clear c2
      have hbx := (Below.refl wr.heap.size wr).alloc (Nat.le_refl _) (.cells #[.int .i64 ix, .int .i64 0, .int .i64 0] 37)
      have bx := Box.new wr #[.int .i64 ix, .int .i64 0, .int .i64 0] 37 rfl
      have hf2 := hf.alloc (.cells #[.int .i64 ix, .int .i64 0, .int .i64 0] 37)
      have hne : u5.ownBlock ≠ some wr.heap.size := fun e => by have := (hf.lt _ e).2; omega
      go_upto_region 11 with fail
      replace hbr := hbr.trans (hbx.mono hbs)
      replace oW := oW.below hbx (by omega)
      have z1 := hbx.size
      clear hf hbx f0
      have hf := hf2
      clear hf2
      generalize wr.alloc _ = w2 at hf hbr oW bx z1 ⊢
      generalize hgg : wr.heap.size = g at hbs bx hne z1 hbl oW ⊢
      clear hgg
      have gl := bx.lt
      by_cases h0 : ix = 0
      · have hz1 : (ix != 0) = false := by rw [bne_eq_false_iff_eq]; exact h0
        have HX := Lib.hid (show Tx.Wd wd ⟨ix, 0, 0⟩ from by rw [h0]; exact Tx.wd_zero HC.out (by rw [HI.out, h0]))
        clear h0
        have x0 := bx.cell (j := 0) rfl
        have x1 := bx.cell (j := 1) rfl
        have x2 := bx.cell (j := 2) rfl
        have xz := bx.frozen
        have xl := bx.lt
        have oL := hf.alloc (.cells #[.int .i64 ix, .int .i64 0, .int .i64 0] 37)
        have hbL := hbr.alloc (by omega) (.cells #[.int .i64 ix, .int .i64 0, .int .i64 0] 37)
        have oWL := oW.below ((Below.refl w2.heap.size w2).alloc (Nat.le_refl _) (.cells #[.int .i64 ix, .int .i64 0, .int .i64 0] 37)) (by omega)
        have HP2 := Lib.hid (show (outs ++ [(⟨ix, 0, 0⟩ : Sl)]).length = k + 1 ∧ Tx.Pre s (k + 1) (outs ++ [⟨ix, 0, 0⟩]) from ⟨by rw [List.length_append, HP.out.1]; rfl, HP.out.2.succ HW.out hwd.out HX.out⟩)
        go_wp2_with (at_builtin; (refine Sl.app_one rfl _ _ rfl w.heap.size u5 k _ rfl oL (g := w2.heap.size) (c := 1) ⟨ix, 0, 0⟩ rfl (fun j u hu => cell_new _ _ _ rfl (by simpa [Sl.cells] using hu)) (by omega) (by simp; omega) ?_); (intro v8 w8 o8 g8))
        go_roundw
        case rel =>
          refine ⟨k + 1, outs ++ [⟨ix, 0, 0⟩], by omega, by go_num, HP2, hbL.grown g8 (by simp; omega) (fun q e => (oL.lt q e).1), ?_, ?_⟩
          · rw [List.flatMap_append]
            simpa using o8
          · exact (oWL.grown_own oL g8 (by decide)).mono (Nat.le_refl _) (by have := g8.size; simp at this; omega)
        case measure => simp [intOf]; omega
      have hz1 : (ix != 0) = true := by rw [bne_iff_ne]; exact h0
      obtain ⟨T, hT⟩ : ∃ T, wd.extract 1 wd.size = T := ⟨_, rfl⟩
      have hTs : T.size ≤ 1048576 := by rw [← hT, ByteArray.size_extract]; omega
      have HT := Lib.hid (show T.data.toList = wd.data.toList.drop 1 from by rw [← hT]; exact Lib.extract_to_end wd 1)
      have c3 := cut_any T w2 hTs (hE.below hbr)
      have x0 := bx.cell (j := 0) rfl
      have x1 := bx.cell (j := 1) rfl
      have x2 := bx.cell (j := 2) rfl
      have xz := bx.frozen
      have xl := bx.lt
      go_wp2_with fail
      clear x0 x1 x2 xz xl
      refine c3.mono ?_; rintro q_ w_ ⟨A, B, ok, rfl, HAB, hAs, hBs, m1, rfl⟩
      clear c3
      replace hf : (w2.drewN m1).ownsRow w.heap.size 37 3 u5 k (outs.flatMap Sl.cells) := hf
      replace hbr := below_drewN hbr m1
      replace oW := oW.keep (w' := w2.drewN m1) (fun _ _ _ _ => rfl)
      replace bx := bx.drewN m1
      have glw3 := bx.lt
      generalize w2.drewN m1 = w3 at hf hbr oW bx glw3 ⊢
      have c4 := ParseInt_any A w3 (by omega) (hE.below hbr)
      have x0 := bx.cell (j := 0) rfl
      have x1 := bx.cell (j := 1) rfl
      have x2 := bx.cell (j := 2) rfl
      have xz := bx.frozen
      have xl := bx.lt
      go_wp2_with fail
      clear x0 x1 x2 xz xl
      refine c4.mono ?_; rintro q_ w4 ⟨⟨n1, k1, rfl, hR1⟩, b4⟩
      clear c4
      have HR1 := Lib.hid hR1
      clear hR1
      replace hf := own_below hf b4
      replace hbr := hbr.trans (b4.mono hbr.size)
      replace oW := oW.below b4 (by omega)
      replace bx := bx.below b4 bx.lt
      have glw4 := bx.lt
      have gsw4 := b4.size
      clear b4
      have c4 := ParseInt_any B w4 (by omega) (hE.below hbr)
      have x0 := bx.cell (j := 0) rfl
      have x1 := bx.cell (j := 1) rfl
      have x2 := bx.cell (j := 2) rfl
      have xz := bx.frozen
      have xl := bx.lt
      go_wp2_with fail
      clear x0 x1 x2 xz xl
      refine c4.mono ?_; rintro q_ w5 ⟨⟨n2, k2, rfl, hR2⟩, b5⟩
      clear c4
      have HQ := Lib.hid (Tx.wd_impl HC.out (by rw [HI.out]; exact h0) (by rw [← HT.out]; exact HAB.out.1) (by rw [← HT.out]; exact HAB.out.2) HR1.out hR2)
      clear hR2 h0
      rw [HI.out] at HQ
      replace hf := own_below hf b5
      replace hbr := hbr.trans (b5.mono hbr.size)
      replace oW := oW.below b5 (by omega)
      replace bx := bx.below b5 bx.lt
      have glw5 := bx.lt
      have gsw5 := b5.size
      clear b5
      cases k1
      · have HF := Lib.hid (Tx.pa_un HW.out hwd.out (fun t hf hw => by have := (HQ.out t hf hw).2.1; cases this))
        have x0 := bx.cell (j := 0) rfl
        have x1 := bx.cell (j := 1) rfl
        have x2 := bx.cell (j := 2) rfl
        have xz := bx.frozen
        have xl := bx.lt
        go_wp2_with fail
        clear x0 x1 x2 xz xl
        go_ret2
        exact ⟨⟨_, [], false, rfl, HF.out, Ow.nil_⟩, hbr⟩
      cases k2
      · have HF := Lib.hid (Tx.pa_un HW.out hwd.out (fun t hf hw => by have := (HQ.out t hf hw).2.2; cases this))
        have x0 := bx.cell (j := 0) rfl
        have x1 := bx.cell (j := 1) rfl
        have x2 := bx.cell (j := 2) rfl
        have xz := bx.frozen
        have xl := bx.lt
        go_wp2_with fail
        clear x0 x1 x2 xz xl
        go_ret2
        exact ⟨⟨_, [], false, rfl, HF.out, Ow.nil_⟩, hbr⟩
      have HX := Lib.hid (show Tx.Wd wd ⟨ix, n1, n2⟩ from fun t hf hw => (HQ.out t hf hw).1)
      have x0 := bx.cell (j := 0) rfl
      have x1 := bx.cell (j := 1) rfl
      have x2 := bx.cell (j := 2) rfl
      have xz := bx.frozen
      have xl := bx.lt
      go_upto_region 18 with fail
      clear x0 x1 x2 xz xl
      generalize hwz : World.setCell (World.setCell _ _ _) _ _ = wz_
      obtain rfl : wz_ = setL w5 g 1 [.int .i64 n1, .int .i64 n2] := hwz.symm
      clear hwz
      replace hf := hf.kept (setL_grown [.int .i64 n1, .int .i64 n2] w5 g 1) (.inr hne)
      replace hbr := setL_below hbr [.int .i64 n1, .int .i64 n2] g 1 (by omega)
      replace oW := oW.keep (w' := setL w5 g 1 [.int .i64 n1, .int .i64 n2]) (fun q h1 h2 _ => setL_other _ _ _ _ q (by omega))
      replace bx : Box (setL w5 g 1 [.int .i64 n1, .int .i64 n2]) g 37 [.int .i64 ix, .int .i64 n1, .int .i64 n2] := (bx.set1 (j := 1) (.int .i64 n1) (by simp)).set1 (j := 2) (.int .i64 n2) (by simp)
      have zs1 : (setL w5 g 1 [.int .i64 n1, .int .i64 n2]).heap.size = w5.heap.size := setL_size _ _ _ _
      have zt1 : w5.heap.size ≤ (setL w5 g 1 [.int .i64 n1, .int .i64 n2]).heap.size := by omega
      clear zs1
      generalize setL w5 _ _ _ = w6 at hf hbr oW bx zt1 ⊢
      have gl6 := bx.lt
      have x0 := bx.cell (j := 0) rfl
      have x1 := bx.cell (j := 1) rfl
      have x2 := bx.cell (j := 2) rfl
      have xz := bx.frozen
      have xl := bx.lt
      have oL := hf.alloc (.cells #[.int .i64 ix, .int .i64 n1, .int .i64 n2] 37)
      have hbL := hbr.alloc (by omega) (.cells #[.int .i64 ix, .int .i64 n1, .int .i64 n2] 37)
      have oWL := oW.below ((Below.refl w6.heap.size w6).alloc (Nat.le_refl _) (.cells #[.int .i64 ix, .int .i64 n1, .int .i64 n2] 37)) (by omega)
      have HP2 := Lib.hid (show (outs ++ [(⟨ix, n1, n2⟩ : Sl)]).length = k + 1 ∧ Tx.Pre s (k + 1) (outs ++ [⟨ix, n1, n2⟩]) from ⟨by rw [List.length_append, HP.out.1]; rfl, HP.out.2.succ HW.out hwd.out HX.out⟩)
      go_wp2_with (at_builtin; (refine Sl.app_one rfl _ _ rfl w.heap.size u5 k _ rfl oL (g := w6.heap.size) (c := 1) ⟨ix, n1, n2⟩ rfl (fun j u hu => cell_new _ _ _ rfl (by simpa [Sl.cells] using hu)) (by omega) (by simp; omega) ?_); (intro v8 w8 o8 g8))
      go_roundw
      case rel =>
        refine ⟨k + 1, outs ++ [⟨ix, n1, n2⟩], by omega, by go_num, HP2, hbL.grown g8 (by simp; omega) (fun q e => (oL.lt q e).1), ?_, ?_⟩
        · rw [List.flatMap_append]
          simpa using o8
        · exact (oWL.grown_own oL g8 (by decide)).mono (Nat.le_refl _) (by have := g8.size; simp at this; omega)
      case measure => simp [intOf]; omega
    · obtain rfl : k = nW := by omega
      have HP4 := Lib.hid (show Tx.Pre s 4 outs from by have := HP.out.2; rwa [show k = 4 by omega] at this)
      have oT := Ow.of_own Sl.cells_len hf rfl HP.out.1.symm
      have c1 := implAreSlots_any _ outs wr oT.rd (Nat.le_refl _)
      have c2 := fun W (b : Below wr.heap.size wr W) hg => slotsText_any _ outs W (oT.rd.below b (Nat.le_refl _)) b.size hg
      clear HP
      cases hg : Sl.good outs
      · rw [hg] at c1
        have HF := Lib.hid (HP4.out.bad hg)
        clear hg c2 HP4
        go_wp2_with fail
        refine c1.mono ?_; rintro q_ w9 ⟨rfl, b9⟩
        clear c1
        have hbe := hbr.trans (b9.mono hbs)
        go_wp2_with fail
        go_ret2
        exact ⟨⟨_, [], false, rfl, HF.out, Ow.nil_⟩, hbe⟩
      · rw [hg] at c1
        obtain ⟨T, hT⟩ : ∃ T : ByteArray, T = ⟨(Tx.text outs).toArray⟩ := ⟨_, rfl⟩
        rw [← hT] at c2
        have c2 := fun W b => c2 W b hg
        have HT := Lib.hid hT
        have HG := Lib.hid hg
        clear hT hg
        go_wp2_with fail
        refine c1.mono ?_; rintro q_ w9 ⟨rfl, b9⟩
        clear c1
        have hbe := hbr.trans (b9.mono hbs)
        have oTe := oT.below b9 (Nat.le_refl _)
        have c3 := c2 _ b9
        go_wp2_with fail
        refine c3.mono ?_; rintro q_ we ⟨rfl, b10⟩
        clear c2 c3
        have hbe2 := hbe.trans (b10.mono hbe.size)
        have hle : wr.heap.size ≤ we.heap.size := Nat.le_trans b9.size b10.size
        have oTe2 := oTe.below b10 b9.size
        cases hq : (T.toList == s.toList)
        · have HF := Lib.hid (HP4.out.other HT.out hq)
          go_wp2_with fail
          go_ret2
          exact ⟨⟨_, [], false, rfl, HF.out, Ow.nil_⟩, hbe2⟩
        · have HF := Lib.hid (Tx.pa_yes HG.out HT.out hq)
          go_wp2_with fail
          go_ret2
          exact ⟨⟨_, outs, true, rfl, HF.out, oTe2.mono (Nat.le_refl _) hle⟩, hbe2⟩

end Go.Proofs.YtaggjadgbmmjoaaDoor
