/- Serving all ready interrupts, in the program and in the reference. No condition. -/
import Derived.Test.YtgnalbfepkcokaaIqMost
import Derived.Test.YtgnalbfepkcokaaIqOps
namespace Go.Proofs.Ytgnalbfepkcokaa
open Go.RowKit Go.ChangeShapes Go.WideShapes Go.Deep

def Iq.sv1 (o : List Iq) (x : Int) : List Iq := o.set x.toNat (Iq.setP false (Iq.nth o x.toNat))
/-- the interrupts xs are no longer pending -/
def Iq.served (l : List Iq) (xs : List Int) : List Iq := xs.foldl Iq.sv1 l
theorem Iq.served_len (xs : List Int) : ∀ l : List Iq, (Iq.served l xs).length = l.length := by
  induction xs with
  | nil => intro l; rfl
  | cons x xs ih => intro l; simp only [Iq.served, List.foldl_cons] at ih ⊢; rw [ih]; simp [Iq.sv1]
theorem Iq.served_pre {l : List Iq} {xs : List Int} {k i : Nat} {t : Iq} (h : xs[k]? = some (i : Int)) (ht : (Iq.served l (xs.take k))[i]? = some t) : Iq.served l (xs.take (k + 1)) = (Iq.served l (xs.take k)).set i (Iq.setP false t) := by
  rw [List.take_add_one, h]
  simp only [Iq.served, Option.toList_some, List.foldl_append, List.foldl_cons, List.foldl_nil]
  change Iq.sv1 (Iq.served l (xs.take k)) i = _
  rw [Iq.sv1, Int.toNat_natCast, Iq.nth_at ht]
  rfl
def Iq.svR (l : List Iq) (cpu : Int) : List Iq := if Iq.rdOk l cpu then Iq.served l (Iq.all l cpu) else []
theorem Iq.svR_len (l : List Iq) (cpu : Int) : (Iq.svR l cpu).length ≤ 1048576 := by
  unfold Iq.svR
  split
  · rename_i h
    rw [Iq.served_len, Iq.good_len (Iq.rd_get h).1]; decide
  · simp

set_option maxHeartbeats 1000000 in
theorem implServeAll_any (v : Value) (l : List Iq) (cpu : Int) (w : World) {lo hi : Nat} (h : Rd Iq.cells 5 w lo hi v l) (hh : hi ≤ w.heap.size) :
    Calls Try.prog 60 #[v, .int .i64 cpu] w fun r w' => ∃ v1 v2, r = .returned (.tuple #[v1, v2, .bool (Iq.rdOk l cpu)]) ∧ Ow Nm.cells 1 3 w' w.heap.size w'.heap.size v1 (Iq.rdR l cpu) ∧ Ow Iq.cells 5 62 w' w.heap.size w'.heap.size v2 (Iq.svR l cpu) ∧ (Iq.rdR l cpu).length ≤ 1048576 ∧ (Iq.svR l cpu).length ≤ 1048576 ∧ Below w.heap.size w w' := by
  have hlen := Iq.rdR_len l cpu
  have hlen2 := Iq.svR_len l cpu
  have c1 := implReadyIrqs_any v l cpu w h hh
  have hrd := h
  obtain ⟨A, n, c, rfl, H, hc, hm⟩ := h.form
  cases hg : Iq.rdOk l cpu
  · have HF := Lib.hid (show Iq.rdR l cpu = [] ∧ Iq.svR l cpu = [] from ⟨(Iq.rd_no hg).2, by simp [Iq.svR, hg]⟩)
    rw [hg] at c1
    clear hg
    go_enter Try.func60, Try.ntmps60
    go_wp2_with fail
    refine c1.mono ?_; rintro q w1 ⟨v1, rfl, o1, _, b1⟩
    go_wp2_with fail
    go_ret3
    exact ⟨_, _, rfl, by rw [HF.out.1]; exact Ow.nil_, by rw [HF.out.2]; exact Ow.nil_, hlen, hlen2, b1⟩
  · have HF := Lib.hid (show Iq.rdR l cpu = Iq.all l cpu ∧ Iq.svR l cpu = Iq.served l (Iq.all l cpu) from ⟨(Iq.rd_yes hg).2, by simp [Iq.svR, hg]⟩)
    have HM := Lib.hid (fun (x : Int) (hx : x ∈ Iq.all l cpu) => (Iq.all_mem l cpu x).1 hx)
    have hn8 := Iq.good_len (Iq.rd_get hg).1
    rw [← H.out] at hn8
    have hn8' : n ≤ 8 := by omega
    rw [hg] at c1
    rw [HF.out.1] at c1
    clear hg hn8
    generalize Iq.all l cpu = xs at *
    go_enter Try.func60, Try.ntmps60
    go_wp2_with fail
    refine c1.mono ?_; rintro q w1 ⟨v1, rfl, o1, _, b1⟩
    replace hrd := hrd.below b1 hh
    obtain ⟨A2, m, c2, rfl, HL, hc2, hm2⟩ := o1.rd.form
    go_wp2_with (at_builtin; refine Iq.app_rd rfl _ _ rfl w1.heap.size (.slice (some ⟨w1.heap.size, 0, none⟩) 0 0) 0 [] rfl (World.ownsRow_lit _ #[] 0 (Nat.le_refl _) (by decide) rfl) rfl (hrd.below (Below.alloc (Below.refl _ _) (Nat.le_refl _) _) (Nat.le_trans hh b1.size)) (by omega) (by simp) ?_; intro v2 w2 hown hg2; clear c1)
    have b2 : Below w1.heap.size w1 w2 := (((Below.refl _ _).alloc (Nat.le_refl _) _).grown hg2 (by simp) (by intro j hj; simp [Value.ownBlock] at hj; omega))
    have ow0 := Ow.of_own Iq.cells_len hown (l := l) (by simp) (by rw [← H.out]; omega)
    clear hown hg2
    obtain ⟨hi2, HH⟩ : ∃ hi2, Hid (hi2 = w2.heap.size) := ⟨_, Lib.hid rfl⟩
    rw [← HH.out] at ow0
    have hz2 : hi2 ≤ w2.heap.size := by rw [HH.out]; exact Nat.le_refl _
    clear HH
    go_loopw [25] (fun i wr => ∃ k : Nat, k ≤ m ∧ i = .int .i64 k ∧ Below w1.heap.size w1 wr ∧ hi2 ≤ wr.heap.size ∧ Ow Iq.cells 5 62 wr w1.heap.size hi2 v2 (Iq.served l (xs.take k))) (fun i _ => m - (intOf i).toNat)
    case atStart => exact ⟨0, Nat.zero_le _, rfl, b2, hz2, ow0⟩
    case round =>
      clear b2 ow0 hz2
      obtain ⟨k, hk, rfl, hb, hz, ow⟩ := hrel
      by_cases hlt : k < m
      · obtain ⟨b, off, x, rfl, hx, _, hbl, g0⟩ := Nm.get o1.rd hlt hb (Nat.le_refl _)
        obtain ⟨i, hi3, _, rfl⟩ := HM.out x (List.mem_of_getElem? hx.out)
        obtain ⟨A3, n3, c3, rfl, H3, hc3, hm3⟩ := ow.rd.form
        have hn3 : n3 = n := by rw [H3.out, Iq.served_len, ← H.out]
        have hin : i < n3 := by rw [hn3, H.out]; exact hi3
        have hn38 : n3 ≤ 8 := by omega
        clear hn3
        have hii : (i : Int) < (n3 : Int) := by omega
        obtain ⟨b3, off3, t, rfl, ht, hb31, hb3l, f0, f1, f2, f3, f4⟩ := Iq.get ow.rd hin (Below.refl wr.heap.size wr) hz
        have hfz := ow.frozen (by omega)
        have HS := Lib.hid (Iq.served_pre hx.out ht.out)
        go_wp2_with fail
        generalize hw : World.setCell _ _ _ = w5
        obtain rfl : w5 = setL wr b3 (off3 + i * 5 + 1) [.bool false] := hw.symm
        clear hw
        have hu : Upd 62 5 wr (setL wr b3 (off3 + i * 5 + 1) [.bool false]) b3 (off3 + i * 5) t.cells (Iq.setP false t).cells := Upd.of_setL 1 (ys := [.bool false]) rfl rfl (by decide)
        have o5 := ow.upd Iq.cells_len (by omega) ht.out hu
        rw [← HS.out] at o5
        have b5 := setL_below hb [.bool false] b3 (off3 + i * 5 + 1) hb31
        have hs5 : hi2 ≤ (setL wr b3 (off3 + i * 5 + 1) [.bool false]).heap.size := by rw [setL_size]; exact hz
        go_roundw
        case rel => exact ⟨k + 1, by omega, by go_num, b5, hs5, o5⟩
        case measure => simp [intOf]; omega
      · have hkx : xs.take k = xs := List.take_of_length_le (by rw [← HL.out]; omega)
        rw [hkx] at ow
        have o2 := o1.below hb (Nat.le_refl _)
        go_wp2_with fail
        go_ret3
        exact ⟨_, _, rfl, by rw [HF.out.1]; exact o2.mono (Nat.le_refl _) hb.size, by rw [HF.out.2]; exact ow.mono b1.size hz, hlen, hlen2, b1.trans (hb.mono b1.size)⟩

set_option maxHeartbeats 1000000 in
theorem specServeAll_any (v : Value) (l : List Iq) (cpu : Int) (w : World) {lo hi : Nat} (h : Rd Iq.cells 5 w lo hi v l) (hh : hi ≤ w.heap.size) :
    Calls Try.prog 62 #[v, .int .i64 cpu] w fun r w' => ∃ v1 v2, r = .returned (.tuple #[v1, v2, .bool (Iq.rdOk l cpu)]) ∧ Rd Nm.cells 1 w' 0 w'.heap.size v1 (Iq.rdR l cpu) ∧ Rd Iq.cells 5 w' 0 w'.heap.size v2 (Iq.svR l cpu) ∧ Below w.heap.size w w' := by
  have c1 := l6Good_any v l w h hh
  have c2 := fun W => l6Cpu_any cpu W
  have c3 := fun (W : World) (k : Below w.heap.size w W) h8 => l6All_any v l cpu W (h.below k hh) (Nat.le_trans hh k.size) h8
  have hrd := h
  obtain ⟨A, n, c, rfl, H, hc, hm⟩ := h.form
  cases hg : Iq.good l
  · have HF := Lib.hid (show Iq.rdOk l cpu = false ∧ Iq.rdR l cpu = [] ∧ Iq.svR l cpu = [] from by
      have : Iq.rdOk l cpu = false := by simp [Iq.rdOk, hg]
      exact ⟨this, (Iq.rd_no this).2, by simp [Iq.svR, this]⟩)
    rw [hg] at c1
    clear hg c3
    go_enter Try.func62, Try.ntmps62
    go_wp2_with fail
    refine c1.mono ?_; rintro q w1 ⟨rfl, b1⟩
    go_wp2_with fail
    go_ret3
    exact ⟨_, _, by rw [HF.out.1]; rfl, by rw [HF.out.2.1]; exact Rd.empty (by decide), by rw [HF.out.2.2]; exact Rd.empty (by decide), (b1.alloc b1.size _).alloc (by have := b1.size; simp; omega) _⟩
  · cases hi2 : inB cpu 0 3
    · have HF := Lib.hid (show Iq.rdOk l cpu = false ∧ Iq.rdR l cpu = [] ∧ Iq.svR l cpu = [] from by
        have : Iq.rdOk l cpu = false := by simp [Iq.rdOk, hi2]
        exact ⟨this, (Iq.rd_no this).2, by simp [Iq.svR, this]⟩)
      rw [hg] at c1
      rw [hi2] at c2
      clear hg hi2 c3
      go_enter Try.func62, Try.ntmps62
      go_wp2_with fail
      refine c1.mono ?_; rintro q w1 ⟨rfl, b1⟩
      go_wp2_with fail
      refine (c2 _).mono ?_; rintro q w' ⟨rfl, rfl⟩
      go_wp2_with fail
      go_ret3
      exact ⟨_, _, by rw [HF.out.1]; rfl, by rw [HF.out.2.1]; exact Rd.empty (by decide), by rw [HF.out.2.2]; exact Rd.empty (by decide), (b1.alloc b1.size _).alloc (by have := b1.size; simp; omega) _⟩
    · have HF := Lib.hid (show Iq.rdOk l cpu = true ∧ Iq.rdR l cpu = Iq.all l cpu ∧ Iq.svR l cpu = Iq.served l (Iq.all l cpu) from by
        have : Iq.rdOk l cpu = true := by simp [Iq.rdOk, hg, hi2]
        exact ⟨this, (Iq.rd_yes this).2, by simp [Iq.svR, this]⟩)
      have HM := Lib.hid (fun (x : Int) (hx : x ∈ Iq.all l cpu) => (Iq.all_mem l cpu x).1 hx)
      have hn8 := Iq.good_len hg
      rw [← H.out] at hn8
      have hn8' : n ≤ 8 := by omega
      have c3 := fun W k => c3 W k (by rw [← H.out]; omega)
      rw [hg] at c1
      rw [hi2] at c2
      clear hg hi2 hn8
      generalize Iq.all l cpu = xs at *
      go_enter Try.func62, Try.ntmps62
      go_wp2_with fail
      refine c1.mono ?_; rintro q w0 ⟨rfl, b0⟩
      go_wp2_with fail
      refine (c2 _).mono ?_; rintro q w' ⟨rfl, rfl⟩
      go_wp2_with fail
      refine (c3 _ b0).mono ?_; rintro q w1 ⟨v1, rfl, o1, b1⟩
      replace b1 := b0.trans (b1.mono b0.size)
      clear b0 c1 c3
      replace hrd := hrd.below b1 hh
      obtain ⟨A2, m, c2, rfl, HL, hc2, hm2⟩ := o1.form
      go_wp2_with (at_builtin; refine Iq.app_rd rfl _ _ rfl w1.heap.size (.slice (some ⟨w1.heap.size, 0, none⟩) 0 0) 0 [] rfl (World.ownsRow_lit _ #[] 0 (Nat.le_refl _) (by decide) rfl) rfl (hrd.below (Below.alloc (Below.refl _ _) (Nat.le_refl _) _) (Nat.le_trans hh b1.size)) (by omega) (by simp) ?_; intro v2 w2 hown hg2)
      have b2 : Below w1.heap.size w1 w2 := (((Below.refl _ _).alloc (Nat.le_refl _) _).grown hg2 (by simp) (by intro j hj; simp [Value.ownBlock] at hj; omega))
      have ow0 := Ow.of_own Iq.cells_len hown (l := l) (by simp) (by rw [← H.out]; omega)
      clear hown hg2
      obtain ⟨hi2, HH⟩ : ∃ hi2, Hid (hi2 = w2.heap.size) := ⟨_, Lib.hid rfl⟩
      rw [← HH.out] at ow0
      have hz2 : hi2 ≤ w2.heap.size := by rw [HH.out]; exact Nat.le_refl _
      clear HH
      go_loopw [9] (fun i wr => ∃ k : Nat, k ≤ m ∧ i = .int .i64 k ∧ Below w1.heap.size w1 wr ∧ hi2 ≤ wr.heap.size ∧ Ow Iq.cells 5 62 wr w1.heap.size hi2 v2 (Iq.served l (xs.take k))) (fun i _ => m - (intOf i).toNat)
      case atStart => exact ⟨0, Nat.zero_le _, rfl, b2, hz2, ow0⟩
      case round =>
        clear b2 ow0 hz2
        obtain ⟨k, hk, rfl, hb, hz, ow⟩ := hrel
        by_cases hlt : k < m
        · obtain ⟨b, off, x, rfl, hx, _, hbl, g0⟩ := Nm.get o1 hlt hb (Nat.le_refl _)
          obtain ⟨i, hi3, _, rfl⟩ := HM.out x (List.mem_of_getElem? hx.out)
          obtain ⟨A3, n3, c3, rfl, H3, hc3, hm3⟩ := ow.rd.form
          have hn3 : n3 = n := by rw [H3.out, Iq.served_len, ← H.out]
          have hin : i < n3 := by rw [hn3, H.out]; exact hi3
          have hn38 : n3 ≤ 8 := by omega
          clear hn3
          have hii : (i : Int) < (n3 : Int) := by omega
          obtain ⟨b3, off3, t, rfl, ht, hb31, hb3l, f0, f1, f2, f3, f4⟩ := Iq.get ow.rd hin (Below.refl wr.heap.size wr) hz
          have hfz := ow.frozen (by omega)
          have HS := Lib.hid (Iq.served_pre hx.out ht.out)
          have hbs := hb.size
          have hb3w : b3 < wr.heap.size := by omega
          have hbw : b < wr.heap.size := by omega
          go_wp2_with fail
          go_region
          generalize hw : World.setCell (World.setCell (World.setCell (World.setCell (World.setCell _ _ _) _ _) _ _) _ _) _ _ = w5
          obtain rfl : w5 = setL wr b3 (off3 + i * 5) (Iq.setP false t).cells := hw.symm
          clear hw
          have hu : Upd 62 5 wr (setL wr b3 (off3 + i * 5) (Iq.setP false t).cells) b3 (off3 + i * 5) t.cells (Iq.setP false t).cells := Upd.of_setL 0 (ys := (Iq.setP false t).cells) rfl rfl (by simp [Iq.cells])
          have o5 := ow.upd Iq.cells_len (by omega) ht.out hu
          rw [← HS.out] at o5
          have b5 := setL_below hb (Iq.setP false t).cells b3 (off3 + i * 5) hb31
          have hs5 : hi2 ≤ (setL wr b3 (off3 + i * 5) (Iq.setP false t).cells).heap.size := by rw [setL_size]; exact hz
          generalize setL wr b3 (off3 + i * 5) (Iq.setP false t).cells = w5 at o5 b5 hs5 ⊢
          go_wp2_with fail
          go_roundw
          case rel => exact ⟨k + 1, by omega, by go_num, (b5.alloc b5.size _).drew, by simp; omega, o5.below ((Below.refl w5.heap.size w5).alloc (Nat.le_refl _) _).drew hs5⟩
          case measure => simp [intOf]; omega
        · have hkx : xs.take k = xs := List.take_of_length_le (by rw [← HL.out]; omega)
          rw [hkx] at ow
          have o2 := o1.below hb (Nat.le_refl _)
          go_wp2_with fail
          go_ret3
          exact ⟨_, _, by rw [HF.out.1]; rfl, by rw [HF.out.2.1]; exact o2.mono (Nat.zero_le _) hb.size, by rw [HF.out.2.2]; exact ow.rd.mono (Nat.zero_le _) hz, b1.trans (hb.mono b1.size)⟩

end Go.Proofs.Ytgnalbfepkcokaa
