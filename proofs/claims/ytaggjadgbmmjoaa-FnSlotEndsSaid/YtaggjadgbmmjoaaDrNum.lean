/- The reference's draws of irqs and numbers: they return something, in new memory. Condition: at most 100000 reads before. -/
import Derived.Test.YtaggjadgbmmjoaaCur
namespace Go.Proofs.Ytaggjadgbmmjoaa
open Go.RowKit Go.ChangeShapes Go.WideShapes Go.Deep

theorem irq_any (g k : Nat) (cv : Value) (l : List UInt8) (w : World) {lo hi : Nat} (h : Rd By.cells 1 w lo hi cv l) (hh : hi ≤ w.heap.size) (hg : g < lo ∨ hi ≤ g) (hc : Cur w g cv k) (hk : k ≤ 100000) :
    Calls Try.prog 27 #[.pointer (some ⟨g, 0, none⟩)] w fun e w' => ∃ x : Int, e = .returned (.int .i64 x) ∧ w.grownBy w' (some g) ∧ Cur w' g cv (k + 10) := by
  have hgl := hc.lt
  have hG := World.grownBy.refl w (some g)
  go_enter Try.func27, Try.ntmps27
  go_wp2_with fail
  refine (one_any g _ _ l 20 w h (by omega) hg hc (by omega) (by omega)).mono ?_; rintro q_ w1 ⟨b1, rfl, gg1, kk1⟩
  clear hc
  replace h := h.grown gg1 (by omega) (fun q e => by injection e with e; omega)
  replace hG := grown_trans hG gg1
  have z_2 := gg1.size
  clear gg1
  cases b1
  · go_wp2_with fail
    refine (pick_any g _ _ l 8 w1 h (by omega) hg kk1 (by omega) (by omega)).mono ?_; rintro q_ w3 ⟨x2, rfl, x2_0, x2_1, gg3, kk3⟩
    clear kk1
    replace h := h.grown gg3 (by omega) (fun q e => by injection e with e; omega)
    replace hG := grown_trans hG gg3
    have z_4 := gg3.size
    clear gg3
    go_wp2_with fail
    go_ret
    exact ⟨_, rfl, hG, kk3.mono (by omega)⟩
  · go_wp2_with fail
    have rl := lit_ints w1 [-1, 8] #[.int .i64 (-1), .int .i64 8] 2 rfl rfl (by decide)
    have ga3 := grown_alloc w1 (.cells #[.int .i64 (-1), .int .i64 8] 3)
    have za3 : (w1.alloc (.cells #[.int .i64 (-1), .int .i64 8] 3)).heap.size = w1.heap.size + 1 := by simp
    replace kk1 := kk1.grown0 ga3
    replace h := h.grown ga3 (by omega) (fun q e => by cases e)
    replace hG := grown_trans hG (grown_weaken ga3)
    have z_4 := ga3.size
    clear ga3
    generalize w1.alloc _ = w3 at *
    generalize hgz4 : w1.heap.size = gz4 at *
    clear hgz4
    refine (among_any g _ _ _ l [-1, 8] w3 h (by omega) hg rl (by omega) (by omega) (by decide) (by decide) kk1 (by omega)).mono ?_; rintro q_ w5 ⟨x2, rfl, gg5, kk5⟩
    clear kk1
    replace h := h.grown gg5 (by omega) (fun q e => by injection e with e; omega)
    replace hG := grown_trans hG gg5
    have z_6 := gg5.size
    clear gg5
    clear rl
    go_wp2_with fail
    go_ret
    exact ⟨_, rfl, hG, kk5.mono (by omega)⟩

end Go.Proofs.Ytaggjadgbmmjoaa
