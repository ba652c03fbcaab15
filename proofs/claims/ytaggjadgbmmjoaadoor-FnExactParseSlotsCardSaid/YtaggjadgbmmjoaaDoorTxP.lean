/- The text of slots in the program. Condition: the slots are valid. -/
import Derived.Test.YtaggjadgbmmjoaaDoorTxT
import Derived.Test.YtaggjadgbmmjoaaDoorTxLay
import Derived.Test.YtaggjadgbmmjoaaDoorTySt
import Derived.Test.YtaggjadgbmmjoaaDoorBox
namespace Go.Proofs.YtaggjadgbmmjoaaDoor
open Go.RowKit Go.ChangeShapes Go.WideShapes Go.Deep

theorem itoa_small (q : Nat) (D : ByteArray) (hq : q < 100) (hD : Hid (D = ⟨(Lib.decDigits q).toArray⟩)) (w : World) : Calls Tryd.prog 35 #[.int .i64 (q : Int)] w fun e w' => e = .returned (.string D) ∧ w' = w := by
  rw [hD.out]; exact Any.strconv_Itoa_small laysItoaS q hq w
theorem join_any (bk o c : Nat) (xs : List ByteArray) (w : World) (hcells : ∀ (j : Nat) x, xs[j]? = some x → w.cell? ⟨bk, o + j, none⟩ = some (.string x)) (hbk : bk < w.heap.size) (hN : xs.length ≤ 1000) (hcap : xs.length ≤ c) (hlen : (Lib.join (xs.map (·.data.toList)) [32]).length ≤ 1000) :
    Calls Tryd.prog 36 #[.slice (some ⟨bk, o, none⟩) xs.length c, .string ⟨#[32]⟩] w fun e w' => e = .returned (.string ⟨(Lib.join (xs.map (·.data.toList)) [32]).toArray⟩) ∧ Below w.heap.size w w' :=
  Any.strings_Join laysJoin joinExtra bk o c xs ⟨#[32]⟩ w hcells hbk (by omega) hcap (by show (Lib.join _ [32]).length ≤ _; omega)

def Tx.ws (l : List Sl) : List ByteArray := l.map fun s => ⟨(Tx.word s).toArray⟩
theorem Tx.ws_data (l : List Sl) : (Tx.ws l).map (·.data.toList) = l.map Tx.word := by simp [Tx.ws]
theorem Tx.ws_succ {l : List Sl} {k : Nat} {s : Sl} (h : l[k]? = some s) : Tx.ws (l.take (k + 1)) = Tx.ws (l.take k) ++ [⟨(Tx.word s).toArray⟩] := by simp [Tx.ws, List.take_add_one, h]
theorem Tx.ws_len (l : List Sl) : (Tx.ws l).length = l.length := by simp [Tx.ws]

set_option maxHeartbeats 1000000 in
theorem slotsText_any (v : Value) (l : List Sl) (w : World) {lo hi : Nat} (h : Rd Sl.cells 3 w lo hi v l) (hh : hi ≤ w.heap.size) (hg : Sl.good l = true) :
    Calls Tryd.prog 18 #[v] w fun e w' => e = .returned (.string ⟨(Tx.text l).toArray⟩) ∧ Below w.heap.size w w' := by
  have hrd := h
  obtain ⟨A, n, c, rfl, H, hc, hm⟩ := h.form
  have hn4 : n = 4 := by rw [H.out]; exact Sl.good_len hg
  have hn5 : n ≤ 4 := by omega
  have hn6 : 1 ≤ n := by omega
  have HG := Lib.hid hg
  clear hg hn4
  have hb0 := (Below.refl w.heap.size w).alloc (Nat.le_refl _) (.cells #[] 9)
  have hf0 := own_empty w (base := w.heap.size) 9 1 (Nat.le_refl _)
  go_enter Tryd.func18, Tryd.ntmps18
  go_wp2_with fail
  generalize w.alloc _ = w0 at hb0 hf0 ⊢
  go_loopw [3, 10] (fun v3 v4 wr => ∃ (k : Nat), k ≤ n ∧ v4 = .int .i64 k ∧ Below w.heap.size w wr ∧ wr.ownsRow w.heap.size 9 1 v3 k ((Tx.ws (l.take k)).flatMap St.cells)) (fun _ i _ => n - (intOf i).toNat)
  case atStart => exact ⟨0, Nat.zero_le _, rfl, hb0, hf0⟩
  case round =>
    obtain ⟨k, hk, rfl, hbr, hf⟩ := hrel
    have hbs := hbr.size
    by_cases hlt : k < n
    · obtain ⟨b, off, s, rfl, hs, _, hbl, f0, f1, f2⟩ := Sl.get hrd hlt hbr hh
      have hbw : b < wr.heap.size := by omega
      have hf9 := Tx.good_fine HG.out hs.out
      obtain ⟨j, i, p, e0, e1, e2, hj, hi8, hp⟩ := Tx.fine_nat hf9
      have HX := Lib.hid (Tx.ws_succ hs.out)
      rw [e0] at f0
      rw [e1] at f1
      rw [e2] at f2
      have hx := lett_ext' hj
      have g1 : (0 : Int) ≤ (j : Int) := by omega
      have g2 : (j : Int) ≤ (j : Int) + 1 := by omega
      have g3 : (j : Int) + 1 ≤ 4 := by omega
      have g4 : j + 1 ≤ 4 := by omega
      have g5 : ((j : Int) + 1).toNat = j + 1 := by omega
      have gw : IntKind.i64.wrap ((j : Int) + 1) = (j : Int) + 1 := IntWalk.i64_in _ (by omega)
      have hbx := (Below.refl wr.heap.size wr).alloc (Nat.le_refl _) (.cells #[.int .i64 (j : Int), .int .i64 (i : Int), .int .i64 (p : Int)] 37)
      have bx := Box.new wr #[.int .i64 (j : Int), .int .i64 (i : Int), .int .i64 (p : Int)] 37 rfl
      have of1 := hf.alloc (.cells #[.int .i64 (j : Int), .int .i64 (i : Int), .int .i64 (p : Int)] 37)
      by_cases hj0 : j = 0
      · have HE := Lib.hid (show (⟨(Tx.word s).toArray⟩ : ByteArray) = ⟨#[Tx.lett (j : Int)]⟩ from by rw [(Tx.word_zero hf9 (by omega)).1, hj0]; rfl)
        have hjn : ((j : Int) != 0) = false := by rw [hj0]; rfl
        have hjz : (j == 0) = true := by rw [hj0]; rfl
        clear hj0 hf9
        go_upto_region 8 with fail
        generalize wr.alloc _ = w1 at hbx of1 ⊢
        have z1 := hbx.size
        have hb1 := hbr.trans (hbx.mono hbs)
        have oL := of1.alloc (.cells #[.string ⟨#[Tx.lett (j : Int)]⟩] 9)
        go_wp2_with (at_builtin; (refine St.app_one rfl _ _ rfl w.heap.size u3 k _ rfl oL (g := w1.heap.size) (c := 1) ⟨#[Tx.lett (j : Int)]⟩ rfl (fun j u hu => cell_new _ _ _ rfl (by simpa [St.cells] using hu)) (by omega) (by simp; omega) ?_); (intro v8 w8 o8 g8))
        go_roundw
        case rel =>
          refine ⟨k + 1, by omega, by go_num, (hb1.alloc (by omega) (.cells #[.string ⟨#[Tx.lett (j : Int)]⟩] 9)).grown g8 (by simp; omega) (fun q e => (oL.lt q e).1), ?_⟩
          rw [HX.out, HE.out, List.flatMap_append]
          simpa using o8
        case measure => simp [intOf]; omega
      · have hjn : ((j : Int) != 0) = true := by rw [bne_iff_ne]; omega
        obtain ⟨D1, hD1⟩ : ∃ D1 : ByteArray, D1 = ⟨(Lib.decDigits i).toArray⟩ := ⟨_, rfl⟩
        obtain ⟨D2, hD2⟩ : ∃ D2 : ByteArray, D2 = ⟨(Lib.decDigits p).toArray⟩ := ⟨_, rfl⟩
        have d1 : D1.size ≤ 20 := by have := dd_len i; rw [hD1, mk_size]; omega
        have d2 : D2.size ≤ 20 := by have := dd_len p; rw [hD2, mk_size]; omega
        obtain ⟨S1, hS1⟩ : ∃ S1, D1 ++ ByteArray.mk #[58] = S1 := ⟨_, rfl⟩
        obtain ⟨S2, hS2⟩ : ∃ S2, S1 ++ D2 = S2 := ⟨_, rfl⟩
        obtain ⟨S3, hS3⟩ : ∃ S3, ByteArray.mk #[Tx.lett (j : Int)] ++ S2 = S3 := ⟨_, rfl⟩
        have hy1 : S1.size ≤ 21 := by rw [← hS1, ByteArray.size_append]; show D1.size + 1 ≤ 21; omega
        have hy2 : S2.size ≤ 41 := by rw [← hS2, ByteArray.size_append]; omega
        have z3 : D1.size + 1 ≤ 9223372036854775807 := by omega
        have z4 : S1.size + D2.size ≤ 9223372036854775807 := by omega
        have z5 : 1 + S2.size ≤ 9223372036854775807 := by omega
        have HE := Lib.hid (show (⟨(Tx.word s).toArray⟩ : ByteArray) = S3 from by
          rw [← hS3, ← hS2, ← hS1, hD1, hD2, show (ByteArray.mk #[58]) = ByteArray.mk [58].toArray from rfl, show (ByteArray.mk #[Tx.lett (j : Int)]) = ByteArray.mk [Tx.lett (j : Int)].toArray from rfl, mk_app, mk_app, mk_app, Tx.word, if_neg (show ¬ s.state = 0 by omega), e0, e1, e2, ← Tx.dec_eq (n := (i : Int)) (by omega) (by omega), ← Tx.dec_eq (n := (p : Int)) (by omega) (by omega)]
          simp)
        have HD1 := Lib.hid hD1
        have HD2 := Lib.hid hD2
        have hq1 : i < 100 := by omega
        have hq2 : p < 100 := by omega
        clear hD1 hD2 hj0 hf9 hp hi8
        go_upto_region 7 with fail
        generalize wr.alloc _ = w1 at hbx bx of1 ⊢
        have z1 := hbx.size
        have hb1 := hbr.trans (hbx.mono hbs)
        have x0 := bx.cell (j := 0) rfl
        have x1 := bx.cell (j := 1) rfl
        have x2 := bx.cell (j := 2) rfl
        go_quiet (exact Calls.quiet_of_same (itoa_small _ _ (by assumption) (by assumption) _))
        have hb2 := below_drewN hb1 nq
        have of2 : (w1.drewN nq).ownsRow w.heap.size 9 1 u3 k ((Tx.ws (l.take k)).flatMap St.cells) := of1
        have z2 : w1.heap.size ≤ (w1.drewN nq).heap.size := Nat.le_refl _
        generalize w1.drewN nq = w2 at hb2 of2 z2 ⊢
        have oL := of2.alloc (.cells #[.string S3] 9)
        go_wp2_with (at_builtin; (refine St.app_one rfl _ _ rfl w.heap.size u3 k _ rfl oL (g := w2.heap.size) (c := 1) S3 rfl (fun j u hu => cell_new _ _ _ rfl (by simpa [St.cells] using hu)) (by omega) (by simp; omega) ?_); (intro v8 w8 o8 g8))
        go_roundw
        case rel =>
          refine ⟨k + 1, by omega, by go_num, (hb2.alloc (by omega) (.cells #[.string S3] 9)).grown g8 (by simp; omega) (fun q e => (oL.lt q e).1), ?_⟩
          rw [HX.out, HE.out, List.flatMap_append]
          simpa using o8
        case measure => simp [intOf]; omega
    · have hkt : l.take k = l := List.take_of_length_le (by rw [← H.out]; omega)
      rw [hkt] at hf
      have oT := Ow.of_own St.cells_len hf rfl (by rw [Tx.ws_len, ← H.out]; omega)
      have hl5 : (Tx.ws l).length ≤ 4 := by rw [Tx.ws_len, ← H.out]; omega
      have hl6 : 1 ≤ (Tx.ws l).length := by rw [Tx.ws_len, ← H.out]; omega
      obtain ⟨AT_, cT, rfl, hcT, hmT, h3⟩ := oT.rd
      obtain ⟨b, off, rfl, hb1, hb2, h4⟩ := h3 (by omega)
      have hcells : ∀ (j : Nat) x, (Tx.ws l)[j]? = some x → wr.cell? ⟨b, off + j, none⟩ = some (.string x) := fun j x hx => by simpa using h4 j x hx 0 _ rfl
      have c1 := join_any b off cT (Tx.ws l) wr hcells hb2 (by omega) hcT (by
        rw [Tx.ws_data, Tx.join_words]
        have := Tx.text_len (l := l) (fun x hx => Tx.good_fine' HG.out hx)
        have := H.out
        omega)
      rw [Tx.ws_data, Tx.join_words] at c1
      clear h3 h4 hcells hf oT hkt
      go_wp2_with fail
      refine c1.mono ?_; rintro q_ w9 ⟨rfl, b9⟩
      go_wp2_with fail
      go_ret
      exact ⟨rfl, hbr.trans (b9.mono hbs)⟩

end Go.Proofs.YtaggjadgbmmjoaaDoor
