/- The parts of a text between bytes, in the reference. Condition: at most 1048576 bytes. -/
import Derived.Test.YtaggjadgbmmjoaaDoorTx
import Derived.Test.YtaggjadgbmmjoaaDoorTySt
import Derived.Test.YtaggjadgbmmjoaaDoorBase3
import Derived.Lib.Strings
namespace Go.Proofs.YtaggjadgbmmjoaaDoor
open Go.RowKit Go.ChangeShapes Go.WideShapes Go.Deep

theorem Tx.drop_at {b : UInt8} {L : List UInt8} {fr i : Nat} (hf : fr ≤ i) (hi : L[i]? = some b) (hn : ∀ c ∈ (L.drop fr).take (i - fr), ¬ c = b) : Tx.split b (L.drop fr) = (L.drop fr).take (i - fr) :: Tx.split b (L.drop (i + 1)) := by
  have hl := (List.getElem?_eq_some_iff.1 hi).1
  have e : L.drop fr = (L.drop fr).take (i - fr) ++ b :: L.drop (i + 1) := by
    conv => lhs; rw [← List.take_append_drop (i - fr) (L.drop fr)]
    rw [List.drop_drop, show fr + (i - fr) = i by omega, List.drop_eq_getElem_cons hl]
    congr 2
    exact Option.some.inj ((List.getElem?_eq_getElem hl).symm.trans hi)
  conv => lhs; rw [e]
  exact Tx.split_app hn _
theorem Tx.take_more {b x : UInt8} {L : List UInt8} {fr i : Nat} (hf : fr ≤ i) (hi : L[i]? = some x) (hx : ¬ x = b) (hn : ∀ c ∈ (L.drop fr).take (i - fr), ¬ c = b) : ∀ c ∈ (L.drop fr).take (i + 1 - fr), ¬ c = b := by
  intro c hc
  rw [show i + 1 - fr = (i - fr) + 1 by omega, List.take_add_one, List.mem_append] at hc
  rcases hc with hc | hc
  · exact hn c hc
  · rw [List.getElem?_drop, show fr + (i - fr) = i by omega, hi] at hc
    simp at hc
    rw [hc]; exact hx

set_option maxHeartbeats 2000000 in
theorem l1Split_any (s : ByteArray) (b : UInt8) (w : World) (hs : s.size ≤ 1048576) :
    Calls Tryd.prog 20 #[.string s, .int .u8 b.toNat] w fun e w' => ∃ v, ∃ outs : List ByteArray, e = .returned v ∧ outs.length ≤ 1048577 ∧ Hid (outs.map (·.data.toList) = Tx.split b s.data.toList) ∧ Ow St.cells 1 9 w' w.heap.size w'.heap.size v outs ∧ Below w.heap.size w w' := by
  have hb0 := (Below.refl w.heap.size w).alloc (Nat.le_refl _) (.cells #[] 9)
  have hf0 := own_empty w (base := w.heap.size) 9 1 (Nat.le_refl _)
  have hsz := Lib.size_eq s
  go_enter Tryd.func20, Tryd.ntmps20
  go_wp2_with fail
  generalize w.alloc _ = w0 at hb0 hf0 ⊢
  go_loopw [5, 6, 7] (fun v5 v6 v7 wr => ∃ (i fr : Nat) (outs : List ByteArray), fr ≤ i ∧ i ≤ s.size ∧ v7 = .int .i64 i ∧ v6 = .int .i64 fr ∧ outs.length ≤ i ∧ Hid (Tx.split b s.data.toList = outs.map (·.data.toList) ++ Tx.split b (s.data.toList.drop fr)) ∧ Hid (∀ c ∈ (s.data.toList.drop fr).take (i - fr), ¬ c = b) ∧ Below w.heap.size w wr ∧ wr.ownsRow w.heap.size 9 1 v5 outs.length (outs.flatMap St.cells)) (fun _ _ i _ => s.size - (intOf i).toNat)
  case atStart => exact ⟨0, 0, [], Nat.le_refl _, Nat.zero_le _, rfl, rfl, Nat.le_refl _, Lib.hid (by simp), Lib.hid (by simp), hb0, hf0⟩
  case round =>
    obtain ⟨i, fr, outs, hfi, hin, rfl, rfl, ho, HS, HN, hbr, hf⟩ := hrel
    have hbs := hbr.size
    have HZ := Lib.hid hsz
    clear hsz
    by_cases hlt : i < s.size
    · have hx : s.data.toList[i]? = some (s[i]'hlt) := by
        rw [List.getElem?_eq_getElem (by rw [← HZ.out]; exact hlt)]; rfl
      have HX := Lib.hid hx
      clear hx
      generalize hc : s[i]'hlt = x at *
      by_cases hxb : x = b
      · subst hxb
        have hfs : (fr : Int) ≤ (i : Int) := by omega
        have his : (i : Int) ≤ (s.size : Int) := by omega
        have HE := Lib.hid (show Tx.split x s.data.toList = (outs ++ [s.extract fr i]).map (·.data.toList) ++ Tx.split x (s.data.toList.drop (i + 1)) from by
          rw [HS.out, Tx.drop_at hfi HX.out HN.out]
          simp [Lib.extract_data])
        have oL := hf.alloc (.cells #[.string (s.extract fr i)] 9)
        go_wp2_with (at_builtin; (refine St.app_one rfl _ _ rfl w.heap.size u5 outs.length _ rfl oL (g := wr.heap.size) (c := 1) (s.extract fr i) rfl (fun j u hu => cell_new _ _ _ rfl (by simpa [St.cells] using hu)) (by omega) (by simp; omega) ?_); (intro v8 w8 o8 g8))
        go_roundw
        case rel =>
          refine ⟨i + 1, i + 1, outs ++ [s.extract fr i], Nat.le_refl _, by omega, by go_num, by go_num, by simp; omega, HE, Lib.hid (by simp), (hbr.alloc hbs (.cells #[.string (s.extract fr i)] 9)).grown g8 (by simp; omega) (fun q e => (oL.lt q e).1), ?_⟩
          rw [List.flatMap_append, List.length_append]
          simpa using o8
        case measure => simp [intOf]; omega
      · have hne : ((x.toNat : Int) == (b.toNat : Int)) = false := by
          rw [beq_eq_false_iff_ne]
          intro e
          exact hxb (UInt8.toNat_inj.1 (by omega))
        have HN2 := Lib.hid (Tx.take_more hfi HX.out hxb HN.out)
        clear hxb
        go_wp2_with fail
        go_roundw
        case rel => exact ⟨i + 1, fr, outs, by omega, by omega, by go_num, rfl, by omega, HS, HN2, hbr, hf⟩
        case measure => simp [intOf]; omega
    · have hfs : (fr : Int) ≤ (s.size : Int) := by omega
      have hfs2 : fr ≤ s.size := by omega
      have HE := Lib.hid (show (outs ++ [s.extract fr s.size]).map (·.data.toList) = Tx.split b s.data.toList from by
        rw [HS.out, Tx.split_one (u := s.data.toList.drop fr) (fun c hc => HN.out c (by rw [List.take_of_length_le (by rw [List.length_drop, ← HZ.out]; omega)]; exact hc))]
        simp only [List.map_append, List.map_cons, List.map_nil, Lib.extract_data]
        rw [List.take_of_length_le (by rw [List.length_drop, ← HZ.out]; omega)])
      have oL := hf.alloc (.cells #[.string (s.extract fr s.size)] 9)
      go_wp2_with (at_builtin; (refine St.app_one rfl _ _ rfl w.heap.size u5 outs.length _ rfl oL (g := wr.heap.size) (c := 1) (s.extract fr s.size) rfl (fun j u hu => cell_new _ _ _ rfl (by simpa [St.cells] using hu)) (by omega) (by simp; omega) ?_); (intro v8 w8 o8 g8))
      go_ret
      have oT : Ow St.cells 1 9 w8 w.heap.size w8.heap.size v8 (outs ++ [s.extract fr s.size]) := Ow.of_own St.cells_len o8 (by rw [List.flatMap_append]; simp) (by simp)
      exact ⟨_, _, rfl, by rw [List.length_append]; simp; omega, HE, oT, (hbr.alloc hbs (.cells #[.string (s.extract fr s.size)] 9)).grown g8 (by simp; omega) (fun q e => (oL.lt q e).1)⟩

end Go.Proofs.YtaggjadgbmmjoaaDoor
