/- The ready interrupts below a mask, in the program and in the reference. No condition. -/
import Derived.Test.YtgnalbfepkcokaaIqMost
import Derived.Test.YtgnalbfepkcokaaDel
import Derived.Test.YtgnalbfepkcokaaApp2
namespace Go.Proofs.Ytgnalbfepkcokaa
open Go.RowKit Go.ChangeShapes Go.WideShapes Go.Deep

def Iq.pmOk (l : List Iq) (cpu mask : Int) : Bool := Iq.rdOk l cpu && inB mask 0 16
def Iq.pmP (l : List Iq) (mask : Int) (x : Int) : Bool := decide (Iq.prL l x < mask)
def Iq.pmR (l : List Iq) (cpu mask : Int) : List Int := if Iq.pmOk l cpu mask then (Iq.all l cpu).filter (Iq.pmP l mask) else []
theorem Iq.pmR_len (l : List Iq) (cpu mask : Int) : (Iq.pmR l cpu mask).length ≤ 1048576 := by
  unfold Iq.pmR
  split
  · rename_i h
    simp only [Iq.pmOk, Bool.and_eq_true] at h
    have := Iq.all_len l cpu
    have := Iq.good_len (Iq.rd_get h.1).1
    have := List.length_filter_le (Iq.pmP l mask) (Iq.all l cpu)
    omega
  · simp
theorem Iq.pm_no {l : List Iq} {cpu mask : Int} (h : Iq.pmOk l cpu mask = false) : Iq.pmOk l cpu mask = false ∧ Iq.pmR l cpu mask = [] := ⟨h, by simp [Iq.pmR, h]⟩
theorem Iq.pm_yes {l : List Iq} {cpu mask : Int} (h : Iq.pmOk l cpu mask = true) : Iq.pmOk l cpu mask = true ∧ Iq.pmR l cpu mask = (Iq.all l cpu).filter (Iq.pmP l mask) := ⟨h, by simp [Iq.pmR, h]⟩

theorem maskClo_any (v : Value) (l : List Iq) (mask : Int) (w : World) {B1 B2 lo hi : Nat} (hB1 : w.cell? ⟨B1, 0, none⟩ = some v) (hB2 : w.cell? ⟨B2, 0, none⟩ = some (.int .i64 mask)) (hz1 : B1 < w.heap.size) (hz2 : B2 < w.heap.size) (h : Rd Iq.cells 5 w lo hi v l) (hh : hi ≤ w.heap.size) (i : Nat) (hi2 : i < l.length) (W : World) (hb : Below w.heap.size w W) :
    Calls Try.prog 122 (#[.int .i64 i] ++ #[.pointer (some ⟨B1, 0, none⟩), .pointer (some ⟨B2, 0, none⟩)]) W fun e w' => e = .returned (.bool (!Iq.pmP l mask i)) ∧ Below W.heap.size W w' := by
  obtain ⟨A, n, c, rfl, H, hc, hm⟩ := h.form
  rw [← H.out] at hi2
  rw [← hb.cell (p := ⟨B1, 0, none⟩) hz1] at hB1
  rw [← hb.cell (p := ⟨B2, 0, none⟩) hz2] at hB2
  obtain ⟨b, off, t, rfl, ht, _, hbl, f0, f1, f2, f3, f4⟩ := Iq.get h hi2 hb hh
  have hii : (i : Int) < (n : Int) := by omega
  by_cases hq : mask ≤ t.prio
  · have HE := Lib.hid (show (!Iq.pmP l mask i) = true from by simp [Iq.pmP, Iq.prL_at ht.out]; omega)
    have hd : decide (mask ≤ t.prio) = true := decide_eq_true hq
    clear hb h f0 f1 f2 f4 hq
    go_enter Try.func122, Try.ntmps122
    go_wp2_with fail
    go_quiet (fail)
    go_wp2_with fail
    go_ret
    exact ⟨ret_bool HE.out.symm, below_drewN (Below.refl _ _) _⟩
  · have HE := Lib.hid (show (!Iq.pmP l mask i) = false from by simp [Iq.pmP, Iq.prL_at ht.out]; omega)
    have hd : decide (mask ≤ t.prio) = false := decide_eq_false hq
    clear hb h f0 f1 f2 f4 hq
    go_enter Try.func122, Try.ntmps122
    go_wp2_with fail
    go_quiet (fail)
    go_wp2_with fail
    go_ret
    exact ⟨ret_bool HE.out.symm, below_drewN (Below.refl _ _) _⟩

set_option maxHeartbeats 1000000 in
theorem implPriorityMask_any (v : Value) (l : List Iq) (cpu mask : Int) (w : World) {lo hi : Nat} (h : Rd Iq.cells 5 w lo hi v l) (hh : hi ≤ w.heap.size) :
    Calls Try.prog 64 #[v, .int .i64 cpu, .int .i64 mask] w fun r w' => ∃ v', r = .returned (.tuple #[v', .bool (Iq.pmOk l cpu mask)]) ∧ Ow Nm.cells 1 3 w' w.heap.size w'.heap.size v' (Iq.pmR l cpu mask) ∧ (Iq.pmR l cpu mask).length ≤ 1048576 ∧ Below w.heap.size w w' := by
  have hlen := Iq.pmR_len l cpu mask
  have b0 : Below w.heap.size w ((w.alloc (.cells #[v] 54)).alloc (.cells #[.int .i64 mask] 3)) := ((Below.refl w.heap.size w).alloc (Nat.le_refl _) _).alloc (by simp) _
  have k0 : ((w.alloc (.cells #[v] 54)).alloc (.cells #[.int .i64 mask] 3)).cell? ⟨w.heap.size, 0, none⟩ = some v := by simp
  have k1 : ((w.alloc (.cells #[v] 54)).alloc (.cells #[.int .i64 mask] 3)).cell? ⟨w.heap.size + 1, 0, none⟩ = some (.int .i64 mask) := by simp
  have z0 : ((w.alloc (.cells #[v] 54)).alloc (.cells #[.int .i64 mask] 3)).heap.size = w.heap.size + 2 := by simp
  have hrd := h.below b0 hh
  have hh0 : hi ≤ ((w.alloc (.cells #[v] 54)).alloc (.cells #[.int .i64 mask] 3)).heap.size := by omega
  have HC := Lib.hid (fun (i : Nat) (hi2 : i < l.length) (W : World) hb => maskClo_any v l mask _ k0 k1 (by omega) (by omega) hrd hh0 i hi2 W hb)
  have c1 := implReadyIrqs_any v l cpu _ hrd hh0
  have c2 := fun W => inside_any mask 0 16 W
  have hv := h.form
  obtain ⟨A, n, c, rfl, H, hc, hm⟩ := hv
  clear h
  go_enter Try.func64, Try.ntmps64
  go_wp2_with fail
  generalize hw0 : (w.alloc _).alloc _ = w0 at *
  clear hw0
  cases hg : Iq.rdOk l cpu
  · have HF := Lib.hid (Iq.pm_no (l := l) (cpu := cpu) (mask := mask) (by simp [Iq.pmOk, hg]))
    rw [hg] at c1
    clear hg
    refine c1.mono ?_; rintro q w1 ⟨v1, rfl, o1, _, b1⟩
    go_wp2_with fail
    go_ret2
    exact ⟨_, by rw [HF.out.1]; rfl, by rw [HF.out.2]; exact Ow.nil_, hlen, b0.trans (b1.mono (by omega))⟩
  · cases hm2 : inB mask 0 16
    · have HF := Lib.hid (Iq.pm_no (l := l) (cpu := cpu) (mask := mask) (by simp [Iq.pmOk, hm2]))
      rw [hg] at c1
      rw [hm2] at c2
      clear hg hm2
      refine c1.mono ?_; rintro q w1 ⟨v1, rfl, o1, _, b1⟩
      replace k1 := (b1.cell (p := ⟨w.heap.size + 1, 0, none⟩) (by show w.heap.size + 1 < _; omega)).trans k1
      go_wp2_with fail
      refine (c2 _).mono ?_; rintro q w' ⟨rfl, rfl⟩
      go_wp2_with fail
      go_ret2
      exact ⟨_, by rw [HF.out.1]; rfl, by rw [HF.out.2]; exact Ow.nil_, hlen, b0.trans (b1.mono (by omega))⟩
    · have HF := Lib.hid (Iq.pm_yes (l := l) (cpu := cpu) (mask := mask) (by simp [Iq.pmOk, hg, hm2]))
      have HM := Lib.hid (fun (x : Int) (hx : x ∈ Iq.all l cpu) => (Iq.all_mem l cpu x).1 hx)
      rw [hg, (Iq.rd_yes hg).2] at c1
      rw [hm2] at c2
      clear hg hm2
      generalize Iq.all l cpu = xs at *
      refine c1.mono ?_; rintro q w1 ⟨v1, rfl, o1, _, b1⟩
      replace k1 := (b1.cell (p := ⟨w.heap.size + 1, 0, none⟩) (by show w.heap.size + 1 < _; omega)).trans k1
      go_wp2_with fail
      refine (c2 _).mono ?_; rintro q w' ⟨rfl, rfl⟩
      have c3 := Nm.delete_any 122 #[.pointer (some ⟨w.heap.size, 0, none⟩), .pointer (some ⟨w.heap.size + 1, 0, none⟩)] (fun x => !Iq.pmP l mask x) w0 v1 xs w1 b1 o1 (Nat.le_refl _) (enters Try.func122 (by kernel_rfl) rfl)
        (fun x W hx hW => by
          obtain ⟨i, hi3, _, rfl⟩ := HM.out x hx
          exact HC.out i hi3 W hW)
      have hfun : (fun x => !!Iq.pmP l mask x) = Iq.pmP l mask := by funext x; simp
      rw [hfun] at c3
      go_wp2_with fail
      refine c3.mono ?_; rintro q w2 ⟨v2, rfl, o2, hz2, b2⟩
      go_wp2_with fail
      go_ret2
      exact ⟨v2, by rw [HF.out.1]; rfl, by rw [HF.out.2]; exact o2.mono (by omega) hz2, hlen, b0.trans (b2.mono (by omega))⟩

set_option maxHeartbeats 1000000 in
theorem specPriorityMask_any (v : Value) (l : List Iq) (cpu mask : Int) (w : World) {lo hi : Nat} (h : Rd Iq.cells 5 w lo hi v l) (hh : hi ≤ w.heap.size) :
    Calls Try.prog 65 #[v, .int .i64 cpu, .int .i64 mask] w fun r w' => ∃ v', r = .returned (.tuple #[v', .bool (Iq.pmOk l cpu mask)]) ∧ Rd Nm.cells 1 w' 0 w'.heap.size v' (Iq.pmR l cpu mask) ∧ Below w.heap.size w w' := by
  have hb0 := (Below.refl w.heap.size w).alloc (Nat.le_refl _) (.cells #[] 3)
  have z0 : (w.alloc (.cells #[] 3)).heap.size = w.heap.size + 1 := by simp
  have c1 := l6Good_any v l (w.alloc (.cells #[] 3)) (h.below hb0 hh) (by omega)
  have c2 := fun W => l6Cpu_any cpu W
  have c3 := fun W => l1In_any mask 0 16 W
  have c4 := fun (W : World) (k : Below w.heap.size w W) h8 => l6All_any v l cpu W (h.below k hh) (Nat.le_trans hh k.size) h8
  have hrd := h
  obtain ⟨A, n, c, rfl, H, hc, hm⟩ := h.form
  have hf0 := own_empty w (base := w.heap.size) 3 1 (Nat.le_refl _)
  cases hg : Iq.good l
  · have HF := Lib.hid (Iq.pm_no (l := l) (cpu := cpu) (mask := mask) (by simp [Iq.pmOk, Iq.rdOk, hg]))
    rw [hg] at c1
    clear hg c4
    go_enter Try.func65, Try.ntmps65
    go_wp2_with fail
    refine c1.mono ?_; rintro q w1 ⟨rfl, b1⟩
    go_wp2_with fail
    go_ret2
    exact ⟨_, by rw [HF.out.1]; rfl, by rw [HF.out.2]; exact Rd.empty (by decide), hb0.trans (b1.mono (by omega))⟩
  · cases hi2 : inB cpu 0 3
    · have HF := Lib.hid (Iq.pm_no (l := l) (cpu := cpu) (mask := mask) (by simp [Iq.pmOk, Iq.rdOk, hi2]))
      rw [hg] at c1
      rw [hi2] at c2
      clear hg hi2 c4
      go_enter Try.func65, Try.ntmps65
      go_wp2_with fail
      refine c1.mono ?_; rintro q w1 ⟨rfl, b1⟩
      go_wp2_with fail
      refine (c2 _).mono ?_; rintro q w' ⟨rfl, rfl⟩
      go_wp2_with fail
      go_ret2
      exact ⟨_, by rw [HF.out.1]; rfl, by rw [HF.out.2]; exact Rd.empty (by decide), hb0.trans (b1.mono (by omega))⟩
    · cases hm2 : inB mask 0 16
      · have HF := Lib.hid (Iq.pm_no (l := l) (cpu := cpu) (mask := mask) (by simp [Iq.pmOk, hm2]))
        rw [hg] at c1
        rw [hi2] at c2
        rw [hm2] at c3
        clear hg hi2 hm2 c4
        go_enter Try.func65, Try.ntmps65
        go_wp2_with fail
        refine c1.mono ?_; rintro q w1 ⟨rfl, b1⟩
        go_wp2_with fail
        refine (c2 _).mono ?_; rintro q w' ⟨rfl, rfl⟩
        go_wp2_with fail
        refine (c3 _).mono ?_; rintro q w' ⟨rfl, rfl⟩
        go_wp2_with fail
        go_ret2
        exact ⟨_, by rw [HF.out.1]; rfl, by rw [HF.out.2]; exact Rd.empty (by decide), hb0.trans (b1.mono (by omega))⟩
      · have HF := Lib.hid (Iq.pm_yes (l := l) (cpu := cpu) (mask := mask) (by simp [Iq.pmOk, Iq.rdOk, hg, hi2, hm2]))
        have HM := Lib.hid (fun (x : Int) (hx : x ∈ Iq.all l cpu) => (Iq.all_mem l cpu x).1 hx)
        have hn8 := Iq.good_len hg
        rw [← H.out] at hn8
        have hn8' : n ≤ 8 := by omega
        have c4 := fun W k => c4 W k (by rw [← H.out]; omega)
        have hxl := Iq.all_len l cpu
        rw [← H.out] at hxl
        rw [hg] at c1
        rw [hi2] at c2
        rw [hm2] at c3
        clear hg hi2 hm2 hn8
        generalize Iq.all l cpu = xs at *
        go_enter Try.func65, Try.ntmps65
        go_wp2_with fail
        refine c1.mono ?_; rintro q w1 ⟨rfl, b1⟩
        go_wp2_with fail
        refine (c2 _).mono ?_; rintro q w' ⟨rfl, rfl⟩
        go_wp2_with fail
        refine (c3 _).mono ?_; rintro q w' ⟨rfl, rfl⟩
        have hb1 := hb0.trans (b1.mono (by omega))
        have hz1 := b1.size
        go_wp2_with fail
        refine (c4 _ hb1).mono ?_; rintro q w2 ⟨v1, rfl, o1, b2⟩
        replace hf0 := (hf0.kept (World.grownBy.mk b1.os b1.tape b1.output b1.size (fun k hk _ => b1.block k hk) : (w.alloc (.cells #[] 3)).grownBy w1 none) (by simp [Value.ownBlock])).kept (World.grownBy.mk b2.os b2.tape b2.output b2.size (fun k hk _ => b2.block k hk) : w1.grownBy w2 none) (by simp [Value.ownBlock])
        have hb2 := hb1.trans (b2.mono hb1.size)
        have hz2 := b2.size
        obtain ⟨A2, m, c2', rfl, HL, hc2, hm2⟩ := o1.form
        have hm8 : m ≤ 8 := by rw [HL.out]; omega
        clear b1 b2 c1 c4
        go_wp2_with fail
        go_loopw [8, 10] (fun q i wr => ∃ (k r : Nat), k ≤ m ∧ i = .int .i64 k ∧ Hid (r = ((xs.take k).filter (Iq.pmP l mask)).length) ∧ r ≤ k ∧ Below w.heap.size w wr ∧ w2.heap.size ≤ wr.heap.size ∧ wr.ownsRow w.heap.size 3 1 q r (((xs.take k).filter (Iq.pmP l mask)).flatMap Nm.cells) ∧ (∀ j, q.ownBlock = some j → j < w1.heap.size ∨ w2.heap.size ≤ j) ∧ Rd Nm.cells 1 wr w1.heap.size w2.heap.size (.slice A2 m c2') xs) (fun _ i _ => m - (intOf i).toNat)
        case atStart => exact ⟨0, 0, Nat.zero_le _, rfl, Lib.hid rfl, Nat.le_refl _, hb2, Nat.le_refl _, hf0, fun j hj => by simp [Value.ownBlock] at hj; omega, o1⟩
        case round =>
          clear hf0 hb2 o1
          obtain ⟨k, r, hk, rfl, HR, hrk, hb, hz, hf, hsep, o1⟩ := hrel
          by_cases hlt : k < m
          · obtain ⟨b, off, x, rfl, hx, hbl0, hbl, g0⟩ := Nm.get o1 hlt (Below.refl wr.heap.size wr) hz
            obtain ⟨i, hi3, _, rfl⟩ := HM.out x (List.mem_of_getElem? hx.out)
            have hin : i < n := by rw [H.out]; exact hi3
            have hii : (i : Int) < (n : Int) := by omega
            obtain ⟨b3, off3, t, rfl, ht, _, hb3l, f0, f1, f2, f3, f4⟩ := Iq.get hrd hin hb hh
            have hs : (xs.take (k + 1)).filter (Iq.pmP l mask) = (xs.take k).filter (Iq.pmP l mask) ++ if t.prio < mask then [(i : Int)] else [] := by
              rw [List.take_add_one, hx.out, List.filter_append]
              congr 1
              by_cases hp : t.prio < mask <;> simp [Iq.pmP, Iq.prL_at ht.out, hp]
            by_cases hp : t.prio < mask
            · have HQ := Lib.hid (show (xs.take (k + 1)).filter (Iq.pmP l mask) = (xs.take k).filter (Iq.pmP l mask) ++ [(i : Int)] from by rw [hs, if_pos hp])
              clear hs
              go_wp2_with (at_builtin; (refine Nm.app_one2 rfl _ _ rfl w.heap.size u8 r _ rfl (hf.alloc _) (g := wr.heap.size) (c := 1) (i : Int) rfl ?hc0 (by omega) (by have := hb.size; simp <;> omega) ?_); (rotate_left); (intro v3 w3 hf3 hg3 hs3))
              go_roundw
              case rel =>
                have hz3 := hg3.size
                rw [World.size_alloc] at hz3
                refine ⟨k + 1, r + 1, by omega, by go_num, Lib.hid (by rw [HQ.out, List.length_append, HR.out]; rfl), by omega, (hb.alloc hb.size _).grown hg3 (by have := hb.size; simp <;> omega) (fun j hj => (hf.lt j hj).1), by omega, ?_, fun j hj => ?_, (o1.below ((Below.refl wr.heap.size wr).alloc (Nat.le_refl _) _) hz).grown hg3 (by simp; omega) hsep⟩
                · rw [HQ.out, List.flatMap_append]
                  exact hf3
                · rcases hs3 with hs3 | hs3
                  · exact hsep j (hs3 ▸ hj)
                  · rw [hs3] at hj
                    injection hj with hj
                    simp at hj
                    omega
              case measure => simp [intOf]; omega
              case hc0 =>
                intro j u hu
                simpa [Nm.cells] using hu
            · have HQ := Lib.hid (show (xs.take (k + 1)).filter (Iq.pmP l mask) = (xs.take k).filter (Iq.pmP l mask) from by rw [hs, if_neg hp, List.append_nil])
              clear hs
              go_wp2_with fail
              go_roundw
              case rel => exact ⟨k + 1, r, by omega, by go_num, Lib.hid (by rw [HQ.out, HR.out]), by omega, hb, hz, by rw [HQ.out]; exact hf, hsep, o1⟩
              case measure => simp [intOf]; omega
          · have hkx : xs.take k = xs := List.take_of_length_le (by rw [← HL.out]; omega)
            rw [hkx] at hf HR
            have ow := Ow.of_own Nm.cells_len hf rfl HR.out
            go_wp2_with fail
            go_ret2
            exact ⟨_, by rw [HF.out.1]; rfl, by rw [HF.out.2]; exact ow.rd.mono (Nat.zero_le _) (Nat.le_refl _), hb⟩

end Go.Proofs.Ytgnalbfepkcokaa
