/- The place of a waiting interrupt, in the reference. No condition. -/
import Derived.Test.YtengaccnncnipaaGreatQu
namespace Go.Proofs.YtengaccnncnipaaGreat
open Go.RowKit Go.ChangeShapes Go.WideShapes Go.Deep

theorem l9Has_any (v : Value) (l : List Wt) (i : Int) (w : World) {lo hi : Nat} (h : Rd Wt.cells 2 w lo hi v l) (hh : hi ≤ w.heap.size) : Calls Tryz.prog 147 #[v, .int .i64 i] w fun e w' => e = .returned (.int .i64 (findIx (Wt.isI i) l)) ∧ w = w' := by
  obtain ⟨A, n, c, rfl, H, hc, hm⟩ := h.form
  go_enter Tryz.func147, Tryz.ntmps147
  go_wp2_with fail
  go_loop [5] (fun j => ∃ k : Nat, k ≤ n ∧ j = .int .i64 k ∧ (l.take k).any (Wt.isI i) = false) (fun j => n - (intOf j).toNat)
  case atStart => exact ⟨0, Nat.zero_le _, rfl, by simp⟩
  case round =>
    obtain ⟨k, hk, rfl, he⟩ := hrel
    have HE := Lib.hid he
    clear he
    by_cases hlt : k < n
    · obtain ⟨b, off, s, rfl, hs, _, _, f0, f1⟩ := Wt.get h hlt (Below.refl w.heap.size w) hh
      have HN := Lib.hid (fun (hq : Wt.isI i s = false) => show (l.take (k + 1)).any (Wt.isI i) = false from by rw [List.take_add_one, List.any_append, HE.out, hs.out]; simp [hq])
      by_cases h2 : s.irq = i
      · have HF := Lib.hid (findIx_hit HE.out hs.out (show Wt.isI i s = true from by simp [Wt.isI, h2]))
        go_wp2_with fail
        go_ret
        exact ⟨ret_int HF.out.symm, rfl⟩
      · have HF := Lib.hid (HN.out (by simp [Wt.isI, h2]))
        go_wp2_with fail
        go_round
        case rel => exact ⟨k + 1, by omega, by go_num, HF.out⟩
        case measure => simp [intOf]; omega
    · go_wp2_with fail
      go_ret
      have he := HE.out
      rw [List.take_of_length_le (by rw [← H.out]; omega)] at he
      exact ⟨ret_int (by simp [findIx, he]), rfl⟩

end Go.Proofs.YtengaccnncnipaaGreat
