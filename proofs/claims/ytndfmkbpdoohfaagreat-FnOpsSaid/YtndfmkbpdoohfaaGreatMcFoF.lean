/- Lemmas and walks that the last text of this claim leans on, part 6. No condition. -/
import Derived.Test.YtndfmkbpdoohfaaGreatMcFoE
/- The type 'Op' of the law text and of the program: its data, its cells, and what the law text's own helpers do with lists of it. No condition. -/
namespace Go.Proofs.YtndfmkbpdoohfaaGreat
open Go.RowKit Go.ChangeShapes Go.WideShapes Go.Deep

structure Op_ where
 kind : Int
 irq : Int
 prio : Int
 deriving DecidableEq, Inhabited

def Op_.cells (t : Op_) : List Value := [.int .i64 t.kind, .int .i64 t.irq, .int .i64 t.prio]
def Op_.val (t : Op_) : Value := .agg #[.int .i64 t.kind, .int .i64 t.irq, .int .i64 t.prio]
def Op_.zero : Op_ := ⟨0, 0, 0⟩
theorem Op_.cells_len (t : Op_) : t.cells.length = 3 := rfl
theorem Op_.info : (Tryz.prog.info? 54).map (fun i => (i.zero, i.size, i.bytes)) = some (some (.agg #[.int .i64 0, .int .i64 0, .int .i64 0]), 3, 24) := by kernel_rfl
theorem Op_.get {w : World} {lo hi : Nat} {A : Option Addr} {n c k : Nat} {l : List Op_} (h : Rd Op_.cells 3 w lo hi (.slice A n c) l) (hk : k < n) {B : Nat} {wr : World} (hb : Below B w wr) (hB : hi ≤ B) :
  ∃ b off t, A = some ⟨b, off, none⟩ ∧ Hid (l[k]? = some t) ∧ lo ≤ b ∧ b < hi ∧ wr.cell? ⟨b, off + k * 3, none⟩ = some (.int .i64 t.kind) ∧ wr.cell? ⟨b, off + k * 3 + 1, none⟩ = some (.int .i64 t.irq) ∧ wr.cell? ⟨b, off + k * 3 + 2, none⟩ = some (.int .i64 t.prio) := by
 obtain ⟨b, off, t, hA, hx, h1, h2, h3⟩ := h.get hk hb hB
 exact ⟨b, off, t, hA, hx, h1, h2, h3 0 _ rfl, h3 1 _ rfl, h3 2 _ rfl⟩
theorem Op_.index_any (g : FuncId) (lb : Array Value) (p : Op_ → Bool) (v : Value) (l : List Op_) (w : World) {lo hi : Nat} (h : Rd Op_.cells 3 w lo hi v l) (hh : hi ≤ w.heap.size)
  (eg : ∀ args w, (callFunc g args).run Tryz.prog w = .ok (.enter g args) w)
  (hp : ∀ (t : Op_) (W : World), t ∈ l → Below w.heap.size w W → Calls Tryz.prog g (#[t.val] ++ lb) W fun e w' => e = .returned (.bool (p t)) ∧ Below W.heap.size W w') :
  Calls Tryz.prog 94 #[v, .func (.func g) #[] lb] w fun e w' => e = .returned (.int .i64 (findIx p l)) ∧ Below w.heap.size w w' := by
 obtain ⟨A, n, c, rfl, H, hc, hm⟩ := h.form
 unfold Op_.val at hp
 have HP := Lib.hid hp
 clear hp
 go_enter Tryz.func94, Tryz.ntmps94
 go_wp2_with fail
 go_loopw [8] (fun i wr => ∃ k : Nat, k ≤ n ∧ i = .int .i64 k ∧ Below w.heap.size w wr ∧ (l.take k).any p = false) (fun i _ => n - (intOf i).toNat)
 case atStart => exact ⟨0, Nat.zero_le _, rfl, Below.refl _ _, by simp⟩
 case round =>
  obtain ⟨k, hk, rfl, hb, he⟩ := hrel
  have HE := Lib.hid he
  clear he
  by_cases hlt : k < n
  ·obtain ⟨b, off, x, rfl, hx, _, _, f0, f1, f2⟩ := Op_.get h hlt hb hh
   have c1 := HP.out x wr (List.mem_of_getElem? hx.out) hb
   cases hq : p x
   ·rw [hq] at c1
    have HF := Lib.hid hq
    clear hq
    go_wp2_with fail
    refine c1.mono ?_; rintro e w1 ⟨rfl, hb1⟩
    go_wp2_with fail
    go_roundw
    case rel => exact ⟨k + 1, by omega, by go_num, hb.trans (hb1.mono hb.size), by rw [List.take_add_one, List.any_append, HE.out, hx.out]; simp [HF.out]⟩
    case measure => simp [intOf]; omega
   ·rw [hq] at c1
    have HF := Lib.hid (findIx_hit HE.out hx.out hq)
    clear hq
    go_wp2_with fail
    refine c1.mono ?_; rintro e w1 ⟨rfl, hb1⟩
    go_wp2_with fail
    go_ret
    exact ⟨ret_int HF.out.symm, hb.trans (hb1.mono hb.size)⟩
  ·go_wp2_with fail
   go_ret
   have he := HE.out
   rw [List.take_of_length_le (by rw [← H.out]; omega)] at he
   exact ⟨ret_int (by simp [findIx, he]), hb⟩
theorem Op_.contains_any (g : FuncId) (lb : Array Value) (p : Op_ → Bool) (v : Value) (l : List Op_) (w : World) {lo hi : Nat} (h : Rd Op_.cells 3 w lo hi v l) (hh : hi ≤ w.heap.size)
  (eg : ∀ args w, (callFunc g args).run Tryz.prog w = .ok (.enter g args) w)
  (hp : ∀ (t : Op_) (W : World), t ∈ l → Below w.heap.size w W → Calls Tryz.prog g (#[t.val] ++ lb) W fun e w' => e = .returned (.bool (p t)) ∧ Below W.heap.size W w') :
  Calls Tryz.prog 64 #[v, .func (.func g) #[] lb] w fun e w' => e = .returned (.bool (l.any p)) ∧ Below w.heap.size w w' := by
 have c1 := Op_.index_any g lb p v l w h hh eg hp
 clear hp
 have hs := findIx_nonneg p l
 generalize findIx p l = i at c1 hs
 cases hq : l.any p
 ·rw [hq] at hs
  have hs : ¬ 0 ≤ i := by simpa using hs
  go_enter Tryz.func64, Tryz.ntmps64
  go_wp2_with fail
  refine c1.mono ?_; rintro e w1 ⟨rfl, hb1⟩
  go_wp2_with fail
  go_ret
  exact ⟨ret_bool (by simp), hb1⟩
 ·rw [hq] at hs
  have hs : 0 ≤ i := by simpa using hs
  go_enter Tryz.func64, Tryz.ntmps64
  go_wp2_with fail
  refine c1.mono ?_; rintro e w1 ⟨rfl, hb1⟩
  go_wp2_with fail
  go_ret
  exact ⟨ret_bool (by simp), hb1⟩


theorem Op_.one (y : Op_) (u : Value) (h : u ∈ Op_.cells y) : u.oneCell' = true := by
 simp only [Op_.cells, List.mem_cons, List.not_mem_nil, or_false] at h
 rcases h with rfl | rfl | rfl <;> rfl
theorem Op_.app_one {w : World} {ops : Array Oper} {rest : List Oper} {o : Oper} {a : Act} {Q : Exit → Act → World → Prop} (hgd : o.guard = none) (s x : Operand)
  (ho : o.op = .call { callee := .builtin .append, args := #[s, x], argTypes := #[48, 48] }) (base : Nat)
  (v : Value) (n : Nat) (xs : List Value) (hs : a.eval s = v) (hown : w.ownsRow base 54 3 v n xs) {g c : Nat} (y : Op_) (hx : a.eval x = .slice (some ⟨g, 0, none⟩) 1 c) (hr : ∀ j u, (Op_.cells y)[j]? = some u → w.cell? ⟨g, j, none⟩ = some u)
  (hlen : n ≤ 4194304) (hbase : base ≤ w.heap.size)
  (h : ∀ v' w', w'.ownsRow base 54 3 v' (n + 1) (xs ++ Op_.cells y) → w.grownBy w' v.ownBlock → wpList Tryz.prog ops Q rest (a.put o.dst v') w') : wpList Tryz.prog ops Q (o :: rest) a w := by
 obtain ⟨i0, hi0, hz0, hz1, hz2⟩ := info_parts Op_.info
 exact wpList_append_own w hgd s x _ ho base _ i0 _ 3 _ Tryz.underlying48 hi0 hz0 hz1 hz2 rfl (by omega) v n xs hs hown ⟨g, 0, none⟩ 1 c (Op_.cells y) hx (by rw [Op_.cells_len]) (fun j u hu => by rw [Go.WideShapes.add_plain, Nat.zero_add]; exact hr j u hu) (Op_.one y) (by unfold maxLen; omega) (by omega) hbase
  fun v' w' h1 h2 _ => h v' w' h1 h2

end Go.Proofs.YtndfmkbpdoohfaaGreat

/- Whether an op of a processor interface is valid, in the program and in the reference. No condition. -/
namespace Go.Proofs.YtndfmkbpdoohfaaGreat
open Go.RowKit Go.ChangeShapes Go.WideShapes Go.Deep

def Op_.ok (o : Op_) : Bool := (o.kind == 1 && (inB o.irq 0 7 && inB o.prio 0 15)) || (((o.kind == 2 || o.kind == 3) && (o.irq == 0 && o.prio == 0)) || (o.kind == 4 && (o.irq == 0 && inB o.prio 0 16)))
theorem Op_.ok_iff (o : Op_) : o.ok = true ↔ (o.kind = 1 ∧ inB o.irq 0 7 = true ∧ inB o.prio 0 15 = true) ∨ ((o.kind = 2 ∨ o.kind = 3) ∧ o.irq = 0 ∧ o.prio = 0) ∨ (o.kind = 4 ∧ o.irq = 0 ∧ inB o.prio 0 16 = true) := by
 simp [Op_.ok, Bool.or_eq_true, Bool.and_eq_true]
theorem inB_223 : inB 2 2 3 = true := rfl
theorem inB_323 : inB 3 2 3 = true := rfl

set_option maxHeartbeats 2000000 in
theorem l10Op_any (o : Op_) (w : World) : Calls Tryz.prog 68 #[o.val] w fun e w' => e = .returned (.bool o.ok) ∧ Below w.heap.size w w' := by
 obtain ⟨kd, ir, pr⟩ := o
 unfold Op_.val
 dsimp only
 by_cases h1 : kd = 1
 ·subst h1
  cases h2 : inB ir 0 7
  ·have HF := Lib.hid (show Op_.ok ⟨1, ir, pr⟩ = false from by simp [Op_.ok, h2])
   have c0 := fun W => l6Irq_any ir W
   rw [h2] at c0
   clear h2
   go_enter Tryz.func68, Tryz.ntmps68
   go_wp2_with fail
   refine (c0 _).mono ?_; rintro q_ w_ ⟨rfl, rfl⟩
   go_wp2_with fail
   go_ret
   exact ⟨ret_bool HF.out.symm, by go_grown⟩
  ·have HF := Lib.hid (show Op_.ok ⟨1, ir, pr⟩ = inB pr 0 15 from by simp [Op_.ok, h2])
   have c0 := fun W => l6Irq_any ir W
   rw [h2] at c0
   have c1 := fun W => l6Prio_any pr W
   clear h2
   go_enter Tryz.func68, Tryz.ntmps68
   go_wp2_with fail
   refine (c0 _).mono ?_; rintro q_ w_ ⟨rfl, rfl⟩
   go_wp2_with fail
   refine (c1 _).mono ?_; rintro q_ w_ ⟨rfl, rfl⟩
   go_wp2_with fail
   go_ret
   exact ⟨ret_bool HF.out.symm, by go_grown⟩
 by_cases h4 : kd = 4
 ·subst h4
  clear h1
  by_cases h2 : ir = 0
  ·subst h2
   have HF := Lib.hid (show Op_.ok ⟨4, 0, pr⟩ = inB pr 0 16 from by simp [Op_.ok])
   have c0 := fun W => l1In_any pr 0 16 W
   go_enter Tryz.func68, Tryz.ntmps68
   go_wp2_with fail
   refine (c0 _).mono ?_; rintro q_ w_ ⟨rfl, rfl⟩
   go_wp2_with fail
   go_ret
   exact ⟨ret_bool HF.out.symm, by go_grown⟩
  ·have h2d : (ir == 0) = false := by simpa using h2
   have HF := Lib.hid (show Op_.ok ⟨4, ir, pr⟩ = false from by simp [Op_.ok, h2])
   go_enter Tryz.func68, Tryz.ntmps68
   go_wp2_with fail
   go_ret
   exact ⟨ret_bool HF.out.symm, by go_grown⟩
 by_cases h5 : kd = 2
 ·subst h5
  clear h1 h4
  by_cases h2 : ir = 0
  ·subst h2
   by_cases h3 : pr = 0
   ·subst h3
    have HF := Lib.hid (show Op_.ok ⟨2, 0, 0⟩ = true from by simp [Op_.ok])
    have c0 := fun W => l1In_any 2 2 3 W
    rw [inB_223] at c0
    go_enter Tryz.func68, Tryz.ntmps68
    go_wp2_with fail
    refine (c0 _).mono ?_; rintro q_ w_ ⟨rfl, rfl⟩
    go_wp2_with fail
    go_ret
    exact ⟨ret_bool HF.out.symm, by go_grown⟩
   ·have h3d : (pr == 0) = false := by simpa using h3
    have HF := Lib.hid (show Op_.ok ⟨2, 0, pr⟩ = false from by simp [Op_.ok, h3])
    have c0 := fun W => l1In_any 2 2 3 W
    rw [inB_223] at c0
    go_enter Tryz.func68, Tryz.ntmps68
    go_wp2_with fail
    refine (c0 _).mono ?_; rintro q_ w_ ⟨rfl, rfl⟩
    go_wp2_with fail
    go_ret
    exact ⟨ret_bool HF.out.symm, by go_grown⟩
  ·have h2d : (ir == 0) = false := by simpa using h2
   have HF := Lib.hid (show Op_.ok ⟨2, ir, pr⟩ = false from by simp [Op_.ok, h2])
   have c0 := fun W => l1In_any 2 2 3 W
   rw [inB_223] at c0
   go_enter Tryz.func68, Tryz.ntmps68
   go_wp2_with fail
   refine (c0 _).mono ?_; rintro q_ w_ ⟨rfl, rfl⟩
   go_wp2_with fail
   go_ret
   exact ⟨ret_bool HF.out.symm, by go_grown⟩
 by_cases h6 : kd = 3
 ·subst h6
  clear h1 h4 h5
  by_cases h2 : ir = 0
  ·subst h2
   by_cases h3 : pr = 0
   ·subst h3
    have HF := Lib.hid (show Op_.ok ⟨3, 0, 0⟩ = true from by simp [Op_.ok])
    have c0 := fun W => l1In_any 3 2 3 W
    rw [inB_323] at c0
    go_enter Tryz.func68, Tryz.ntmps68
    go_wp2_with fail
    refine (c0 _).mono ?_; rintro q_ w_ ⟨rfl, rfl⟩
    go_wp2_with fail
    go_ret
    exact ⟨ret_bool HF.out.symm, by go_grown⟩
   ·have h3d : (pr == 0) = false := by simpa using h3
    have HF := Lib.hid (show Op_.ok ⟨3, 0, pr⟩ = false from by simp [Op_.ok, h3])
    have c0 := fun W => l1In_any 3 2 3 W
    rw [inB_323] at c0
    go_enter Tryz.func68, Tryz.ntmps68
    go_wp2_with fail
    refine (c0 _).mono ?_; rintro q_ w_ ⟨rfl, rfl⟩
    go_wp2_with fail
    go_ret
    exact ⟨ret_bool HF.out.symm, by go_grown⟩
  ·have h2d : (ir == 0) = false := by simpa using h2
   have HF := Lib.hid (show Op_.ok ⟨3, ir, pr⟩ = false from by simp [Op_.ok, h2])
   have c0 := fun W => l1In_any 3 2 3 W
   rw [inB_323] at c0
   go_enter Tryz.func68, Tryz.ntmps68
   go_wp2_with fail
   refine (c0 _).mono ?_; rintro q_ w_ ⟨rfl, rfl⟩
   go_wp2_with fail
   go_ret
   exact ⟨ret_bool HF.out.symm, by go_grown⟩
 have g1 : (kd == 1) = false := by simpa using h1
 have g2 : (kd == 2) = false := by simpa using h5
 have g3 : (kd == 3) = false := by simpa using h6
 have g4 : (kd == 4) = false := by simpa using h4
 have h7 : inB kd 2 3 = false := by cases h : inB kd 2 3 with | false => rfl | true => (rw [inB_iff] at h; omega)
 have HF := Lib.hid (show Op_.ok ⟨kd, ir, pr⟩ = false from by simp [Op_.ok, h1, h4, h5, h6])
 have c0 := fun W => l1In_any kd 2 3 W
 rw [h7] at c0
 clear h1 h4 h5 h6 h7
 go_enter Tryz.func68, Tryz.ntmps68
 go_wp2_with fail
 refine (c0 _).mono ?_; rintro q_ w_ ⟨rfl, rfl⟩
 go_wp2_with fail
 go_ret
 exact ⟨ret_bool HF.out.symm, by go_grown⟩
set_option maxHeartbeats 2000000 in
theorem isOp_any (o : Op_) (w : World) : Calls Tryz.prog 66 #[o.val] w fun e w' => e = .returned (.bool o.ok) ∧ Below w.heap.size w w' := by
 obtain ⟨kd, ir, pr⟩ := o
 unfold Op_.val
 dsimp only
 by_cases h1 : kd = 1
 ·subst h1
  cases h2 : inB ir 0 7
  ·have HF := Lib.hid (show Op_.ok ⟨1, ir, pr⟩ = false from by simp [Op_.ok, h2])
   have c0 := fun W => isIrq_any ir W
   rw [h2] at c0
   clear h2
   go_enter Tryz.func66, Tryz.ntmps66
   go_wp2_with fail
   refine (c0 _).mono ?_; rintro q_ w_ ⟨rfl, rfl⟩
   go_wp2_with fail
   go_ret
   exact ⟨ret_bool HF.out.symm, by go_grown⟩
  ·have HF := Lib.hid (show Op_.ok ⟨1, ir, pr⟩ = inB pr 0 15 from by simp [Op_.ok, h2])
   have c0 := fun W => isIrq_any ir W
   rw [h2] at c0
   have c1 := fun W => isPriority_any pr W
   clear h2
   go_enter Tryz.func66, Tryz.ntmps66
   go_wp2_with fail
   refine (c0 _).mono ?_; rintro q_ w_ ⟨rfl, rfl⟩
   go_wp2_with fail
   refine (c1 _).mono ?_; rintro q_ w_ ⟨rfl, rfl⟩
   go_wp2_with fail
   go_ret
   exact ⟨ret_bool HF.out.symm, by go_grown⟩
 by_cases h4 : kd = 4
 ·subst h4
  clear h1
  by_cases h2 : ir = 0
  ·subst h2
   have HF := Lib.hid (show Op_.ok ⟨4, 0, pr⟩ = inB pr 0 16 from by simp [Op_.ok])
   have c0 := fun W => isMask_any pr W
   go_enter Tryz.func66, Tryz.ntmps66
   go_wp2_with fail
   refine (c0 _).mono ?_; rintro q_ w_ ⟨rfl, rfl⟩
   go_wp2_with fail
   go_ret
   exact ⟨ret_bool HF.out.symm, by go_grown⟩
  ·have h2d : (ir == 0) = false := by simpa using h2
   have HF := Lib.hid (show Op_.ok ⟨4, ir, pr⟩ = false from by simp [Op_.ok, h2])
   go_enter Tryz.func66, Tryz.ntmps66
   go_wp2_with fail
   go_ret
   exact ⟨ret_bool HF.out.symm, by go_grown⟩
 by_cases h5 : kd = 2
 ·subst h5
  clear h1 h4
  by_cases h2 : ir = 0
  ·subst h2
   by_cases h3 : pr = 0
   ·subst h3
    have HF := Lib.hid (show Op_.ok ⟨2, 0, 0⟩ = true from by simp [Op_.ok])
    go_enter Tryz.func66, Tryz.ntmps66
    go_wp2_with fail
    go_ret
    exact ⟨ret_bool HF.out.symm, by go_grown⟩
   ·have h3d : (pr == 0) = false := by simpa using h3
    have HF := Lib.hid (show Op_.ok ⟨2, 0, pr⟩ = false from by simp [Op_.ok, h3])
    go_enter Tryz.func66, Tryz.ntmps66
    go_wp2_with fail
    go_ret
    exact ⟨ret_bool HF.out.symm, by go_grown⟩
  ·have h2d : (ir == 0) = false := by simpa using h2
   have HF := Lib.hid (show Op_.ok ⟨2, ir, pr⟩ = false from by simp [Op_.ok, h2])
   go_enter Tryz.func66, Tryz.ntmps66
   go_wp2_with fail
   go_ret
   exact ⟨ret_bool HF.out.symm, by go_grown⟩
 by_cases h6 : kd = 3
 ·subst h6
  clear h1 h4 h5
  by_cases h2 : ir = 0
  ·subst h2
   by_cases h3 : pr = 0
   ·subst h3
    have HF := Lib.hid (show Op_.ok ⟨3, 0, 0⟩ = true from by simp [Op_.ok])
    go_enter Tryz.func66, Tryz.ntmps66
    go_wp2_with fail
    go_ret
    exact ⟨ret_bool HF.out.symm, by go_grown⟩
   ·have h3d : (pr == 0) = false := by simpa using h3
    have HF := Lib.hid (show Op_.ok ⟨3, 0, pr⟩ = false from by simp [Op_.ok, h3])
    go_enter Tryz.func66, Tryz.ntmps66
    go_wp2_with fail
    go_ret
    exact ⟨ret_bool HF.out.symm, by go_grown⟩
  ·have h2d : (ir == 0) = false := by simpa using h2
   have HF := Lib.hid (show Op_.ok ⟨3, ir, pr⟩ = false from by simp [Op_.ok, h2])
   go_enter Tryz.func66, Tryz.ntmps66
   go_wp2_with fail
   go_ret
   exact ⟨ret_bool HF.out.symm, by go_grown⟩
 have g1 : (kd == 1) = false := by simpa using h1
 have g2 : (kd == 2) = false := by simpa using h5
 have g3 : (kd == 3) = false := by simpa using h6
 have g4 : (kd == 4) = false := by simpa using h4
 have HF := Lib.hid (show Op_.ok ⟨kd, ir, pr⟩ = false from by simp [Op_.ok, h1, h4, h5, h6])
 clear h1 h4 h5 h6
 go_enter Tryz.func66, Tryz.ntmps66
 go_wp2_with fail
 go_ret
 exact ⟨ret_bool HF.out.symm, by go_grown⟩
theorem badOp_any (o : Op_) (w : World) : Calls Tryz.prog 65 #[o.val] w fun e w' => e = .returned (.bool (!o.ok)) ∧ Below w.heap.size w w' := by
 have b0 : Below w.heap.size w (w.alloc (.cells #[.int .i64 o.kind, .int .i64 o.irq, .int .i64 o.prio] 54)) := (Below.refl w.heap.size w).alloc (Nat.le_refl _) _
 have c1 := isOp_any o (w.alloc (.cells #[.int .i64 o.kind, .int .i64 o.irq, .int .i64 o.prio] 54))
 unfold Op_.val at c1 ⊢
 go_enter Tryz.func65, Tryz.ntmps65
 go_wp2_with fail
 refine c1.mono ?_; rintro q_ w1 ⟨rfl, b1⟩
 go_wp2_with fail
 go_ret
 exact ⟨rfl, b0.trans (b1.mono (by simp))⟩

end Go.Proofs.YtndfmkbpdoohfaaGreat

/- Running ops on a processor interface, in plain terms: what each op makes of it, and that it stays valid. No condition. -/
namespace Go.Proofs.YtndfmkbpdoohfaaGreat

structure FS where
 m : Int
 st : List Int
 ls : List Sl
 lw : List Wt
def FS.good (s : FS) : Bool := Fa.good s.m s.st s.ls s.lw
def FS.tk (s : FS) : Bool := Sl.tkOk s.ls (minI s.m (Fa.run s.st s.ls))
def FS.took (s : FS) : FS := ⟨s.m, s.st ++ [Sl.tkI s.ls], Sl.tkS s.ls, s.lw⟩
def FS.rose (s : FS) (i p : Int) : FS := ⟨s.m, s.st, (Qu.ofP s.ls s.lw i p).1, (Qu.ofP s.ls s.lw i p).2⟩
def FS.left (s : FS) : FS := ⟨s.m, s.st.dropLast, (Qu.enP s.ls s.lw (Fa.top s.st)).1, (Qu.enP s.ls s.lw (Fa.top s.st)).2⟩
def FS.masked (s : FS) (k : Int) : FS := ⟨k, s.st, s.ls, s.lw⟩
def FS.step (s : FS) (o : Op_) : FS :=
 if o.kind = 1 then s.rose o.irq o.prio else if o.kind = 2 then (if s.tk then s.took else s) else if o.kind = 3 then (if s.st.length = 0 then s else s.left) else s.masked o.prio
def FS.got (s : FS) (o : Op_) : List Int := if o.kind = 2 then (if s.tk then [Sl.tkI s.ls] else []) else []
def FS.next (p : FS × List Int) (o : Op_) : FS × List Int := (p.1.step o, p.2 ++ p.1.got o)
def FS.runs (p : FS × List Int) (l : List Op_) : FS × List Int := l.foldl FS.next p
theorem FS.runs_pre {p : FS × List Int} {l : List Op_} {k : Nat} {o : Op_} (h : l[k]? = some o) : FS.runs p (l.take (k + 1)) = FS.next (FS.runs p (l.take k)) o := by
 rw [FS.runs, List.take_add_one, h, List.foldl_append]; rfl
theorem minI_le (a b : Int) : minI a b ≤ a ∧ minI a b ≤ b := by unfold minI; split <;> omega
theorem FS.good_iff {s : FS} : s.good = true ↔ inB s.m 0 16 = true ∧ Qu.good s.ls s.lw = true ∧ Fa.Ok s.st s.ls := Fa.good_iff
theorem FS.took_good {s : FS} (h : s.good = true) (hk : s.tk = true) : s.took.good = true := by
 rw [FS.good_iff] at *
 obtain ⟨h1, h2, h3⟩ := h
 exact ⟨h1, Qu.tk_good h2 hk, Fa.take_ok (Qu.good_parts h2).1 h3 hk (minI_le _ _).2⟩
theorem FS.rose_good {s : FS} (h : s.good = true) {i p : Int} (hi : inB i 0 7 = true) (hp : inB p 0 15 = true) : (s.rose i p).good = true := by
 rw [FS.good_iff] at *
 obtain ⟨h1, h2, h3⟩ := h
 exact ⟨h1, Qu.ofP_good (by simp [Qu.ofOk, h2, hi, hp]), Fa.raise_ok h2 hi hp h3⟩
theorem FS.left_good {s : FS} (h : s.good = true) (h0 : ¬ s.st.length = 0) : s.left.good = true := by
 obtain ⟨j, hj⟩ : ∃ j, j + 1 = s.st.length := ⟨s.st.length - 1, by omega⟩
 obtain ⟨x, hx⟩ : ∃ x, s.st[j]? = some x := ⟨_, List.getElem?_eq_getElem (show j < s.st.length by omega)⟩
 obtain ⟨_, e2, e3⟩ := Fa.top_at hj hx
 obtain ⟨h4, h5⟩ := Fa.lv_end h hj hx
 rw [FS.good_iff] at *
 obtain ⟨h1, h2, h3⟩ := h
 simp only [FS.left, e2, e3]
 exact ⟨h1, Qu.eiP_good (Qu.good_parts h2).1 h4, h5⟩
theorem FS.masked_good {s : FS} (h : s.good = true) {k : Int} (hk : inB k 0 16 = true) : (s.masked k).good = true := by
 rw [FS.good_iff] at *
 exact ⟨hk, h.2⟩
theorem FS.step_good {s : FS} (h : s.good = true) {o : Op_} (ho : o.ok = true) : (s.step o).good = true := by
 rw [Op_.ok_iff] at ho
 unfold FS.step
 rcases ho with ⟨e, h1, h2⟩ | ⟨e | e, _, _⟩ | ⟨e, _, h2⟩
 ·rw [if_pos e]; exact FS.rose_good h h1 h2
 ·rw [if_neg (by omega), if_pos e]
  split
  ·rename_i hk; exact FS.took_good h hk
  ·exact h
 ·rw [if_neg (by omega), if_neg (by omega), if_pos e]
  split
  ·exact h
  ·rename_i h0; exact FS.left_good h h0
 ·rw [if_neg (by omega), if_neg (by omega), if_neg (by omega)]
  exact FS.masked_good h h2
theorem FS.runs_good {l : List Op_} (hl : l.all Op_.ok = true) : ∀ {p : FS × List Int}, p.1.good = true → (FS.runs p l).1.good = true := by
 induction l with
 | nil => intro p h; exact h
 | cons o l ih =>
  intro p h
  simp only [List.all_cons, Bool.and_eq_true] at hl
  exact ih hl.2 (p := FS.next p o) (FS.step_good h hl.1)
/-- valid: at most 4 on the stack, 4 slots, 8 waiters -/
theorem FS.good_len {s : FS} (h : s.good = true) : s.st.length ≤ 4 ∧ s.ls.length = 4 ∧ s.lw.length ≤ 8 := by
 rw [FS.good_iff] at h
 obtain ⟨_, h2, h3⟩ := h
 have h4 := Qu.good_len2 h2
 have h5 := Fa.ok_len h3
 omega

def FS.roOk (s : FS) (l : List Op_) : Bool := s.good && (decide (l.length ≤ 20) && l.all Op_.ok)
def FS.roS (s : FS) (l : List Op_) : FS := if s.roOk l then (FS.runs (s, []) l).1 else ⟨0, [], [], []⟩
def FS.roT (s : FS) (l : List Op_) : List Int := if s.roOk l then (FS.runs (s, []) l).2 else []
theorem FS.ro_no {s : FS} {l : List Op_} (h : s.roOk l = false) : s.roOk l = false ∧ s.roS l = ⟨0, [], [], []⟩ ∧ s.roT l = [] := by simp [FS.roS, FS.roT, h]
theorem FS.ro_yes {s : FS} {l : List Op_} (h : s.roOk l = true) : s.roOk l = true ∧ s.roS l = (FS.runs (s, []) l).1 ∧ s.roT l = (FS.runs (s, []) l).2 := by simp [FS.roS, FS.roT, h]
end Go.Proofs.YtndfmkbpdoohfaaGreat

/- The reference's draw of an interface: it returns something, in new memory. Condition: at most 50000 reads before. -/
namespace Go.Proofs.YtndfmkbpdoohfaaGreat
open Go.RowKit Go.ChangeShapes Go.WideShapes Go.Deep

/-- the state of a draw of an interface: the code, the reader at g, the result's box, the interface's box at gQ, its rows -/
structure DF (w : World) (g : Nat) (cv : Value) (l : List UInt8) (lo hi : Nat) (k : Nat) (W : World) (gQ : Nat) (m : Int) (vt vs vw : Value) (st : List Int) (ls : List Sl) (lw : List Wt) : Prop where
 h : Rd By.cells 1 W lo hi cv l
 c : Cur W g cv k
 G : w.grownBy W (some g)
 r : Box W w.heap.size 30 [.int .i64 0, .slice none 0 0, .slice none 0 0, .slice none 0 0]
 q : Box W gQ 30 [.int .i64 m, vt, vs, vw]
 ot : Ow Nm.cells 1 3 W w.heap.size W.heap.size vt st
 os : Ow Sl.cells 3 93 W w.heap.size W.heap.size vs ls
 ow : Ow Wt.cells 2 107 W w.heap.size W.heap.size vw lw
section
variable {w W W' : World} {g lo hi k k' gQ : Nat} {m : Int} {cv vt vs vw : Value} {l : List UInt8} {st : List Int} {ls : List Sl} {lw : List Wt}
theorem DF.size (d : DF w g cv l lo hi k W gQ m vt vs vw st ls lw) : w.heap.size ≤ W.heap.size := d.G.size
theorem DF.hle (f : DQF w g lo hi gQ) (d : DF w g cv l lo hi k W gQ m vt vs vw st ls lw) : hi ≤ W.heap.size := Nat.le_trans f.hh d.size
theorem DF.pick (d : DF w g cv l lo hi k W gQ m vt vs vw st ls lw) (f : DQF w g lo hi gQ) (gg : W.grownBy W' (some g)) (c : Cur W' g cv k') : DF w g cv l lo hi k' W' gQ m vt vs vw st ls lw := by
 obtain ⟨f1, f2, f3, f4⟩ := f
 exact ⟨d.h.grown gg (Nat.le_trans f2 d.size) (fun q e => by injection e with e; omega), c, grown_trans d.G gg, d.r.keep (gg.block _ d.r.lt (fun e => by injection e with e; omega)), d.q.keep (gg.block _ d.q.lt (fun e => by injection e with e; omega)),
  (d.ot.apart gg (fun q e => by injection e with e; omega)).mono (Nat.le_refl _) gg.size, (d.os.apart gg (fun q e => by injection e with e; omega)).mono (Nat.le_refl _) gg.size, (d.ow.apart gg (fun q e => by injection e with e; omega)).mono (Nat.le_refl _) gg.size⟩
theorem DF.below (d : DF w g cv l lo hi k W gQ m vt vs vw st ls lw) (f : DQF w g lo hi gQ) (b : Below W.heap.size W W') : DF w g cv l lo hi k W' gQ m vt vs vw st ls lw :=
 ⟨d.h.below b (Nat.le_trans f.hh d.size), d.c.grown0 (grown_below b), grown_trans d.G (grown_weaken (grown_below b)), d.r.below b d.r.lt, d.q.below b d.q.lt, (d.ot.below b (Nat.le_refl _)).mono (Nat.le_refl _) b.size, (d.os.below b (Nat.le_refl _)).mono (Nat.le_refl _) b.size, (d.ow.below b (Nat.le_refl _)).mono (Nat.le_refl _) b.size⟩
/-- the interface's box is written -/
theorem DF.wr {off : Nat} {vv : List Value} (d : DF w g cv l lo hi k W gQ m vt vs vw st ls lw) (f : DQF w g lo hi gQ) {m' : Int} {vt' vs' vw' : Value} {st' : List Int} {ls' : List Sl} {lw' : List Wt} (hq : Box (setL W gQ off vv) gQ 30 [.int .i64 m', vt', vs', vw']) (o0 : Ow Nm.cells 1 3 W w.heap.size W.heap.size vt' st') (o1 : Ow Sl.cells 3 93 W w.heap.size W.heap.size vs' ls') (o2 : Ow Wt.cells 2 107 W w.heap.size W.heap.size vw' lw') : DF w g cv l lo hi k (setL W gQ off vv) gQ m' vt' vs' vw' st' ls' lw' := by
 obtain ⟨f1, f2, f3, f4⟩ := f
 have hs : (setL W gQ off vv).heap.size = W.heap.size := setL_size _ _ _ _
 have gS := setL_grown vv W gQ off
 refine ⟨d.h.grown gS (Nat.le_trans f2 d.size) (fun q e => by injection e with e; omega), d.c.other gS (by omega), grown_new d.G gS (fun q e => by injection e with e; omega), d.r.other (by omega) off vv, hq, ?_, ?_, ?_⟩
 ·rw [hs]; exact o0.box d.q (by decide) off vv
 ·rw [hs]; exact o1.box d.q (by decide) off vv
 ·rw [hs]; exact o2.box d.q (by decide) off vv
theorem DF.store (d : DF w g cv l lo hi k W gQ m vt vs vw st ls lw) (f : DQF w g lo hi gQ) {vt' vs' vw' : Value} {st' : List Int} {ls' : List Sl} {lw' : List Wt} (o0 : Ow Nm.cells 1 3 W w.heap.size W.heap.size vt' st') (o1 : Ow Sl.cells 3 93 W w.heap.size W.heap.size vs' ls') (o2 : Ow Wt.cells 2 107 W w.heap.size W.heap.size vw' lw') : DF w g cv l lo hi k (setL W gQ 0 [.int .i64 m, vt', vs', vw']) gQ m vt' vs' vw' st' ls' lw' :=
 d.wr f (d.q.setAll _ rfl) o0 o1 o2
theorem DF.store0 (d : DF w g cv l lo hi k W gQ m vt vs vw st ls lw) (f : DQF w g lo hi gQ) (m' : Int) : DF w g cv l lo hi k (setL W gQ 0 [.int .i64 m']) gQ m' vt vs vw st ls lw :=
 d.wr f (d.q.set1 (j := 0) (.int .i64 m') (by simp)) d.ot d.os d.ow
theorem DF.store23 (d : DF w g cv l lo hi k W gQ m vt vs vw st ls lw) (f : DQF w g lo hi gQ) {vs' vw' : Value} {ls' : List Sl} {lw' : List Wt} (o1 : Ow Sl.cells 3 93 W w.heap.size W.heap.size vs' ls') (o2 : Ow Wt.cells 2 107 W w.heap.size W.heap.size vw' lw') : DF w g cv l lo hi k (setL W gQ 2 [vs', vw']) gQ m vt vs' vw' st ls' lw' :=
 d.wr f (show Box (setL (setL W gQ 2 [vs']) gQ 3 [vw']) gQ _ _ from (d.q.set1 (j := 2) vs' (by simp)).set1 (j := 3) vw' (by simp)) d.ot o1 o2
theorem DF.app_box {row : Option Nat} (d : DF w g cv l lo hi k W gQ m vt vs vw st ls lw) (gg : W.grownBy W' row) (hr : ∀ q, row = some q → w.heap.size ≤ q ∧ q < W.heap.size ∧ ∃ cur, W.heap[q]? = some (.cells cur 3 (0, 0))) : Box W' gQ 30 [.int .i64 m, vt, vs, vw] :=
 d.q.other_type gg (fun q e => (hr q e).2.2) (by decide)
theorem DF.app {row : Option Nat} (d : DF w g cv l lo hi k W gQ m vt vs vw st ls lw) (f : DQF w g lo hi gQ) (gg : W.grownBy W' row) (hr : ∀ q, row = some q → w.heap.size ≤ q ∧ q < W.heap.size ∧ ∃ cur, W.heap[q]? = some (.cells cur 3 (0, 0))) {v8 : Value} {st' : List Int} (o8 : Ow Nm.cells 1 3 W' w.heap.size W'.heap.size v8 st') : DF w g cv l lo hi k (setL W' gQ 1 [v8]) gQ m v8 vs vw st' ls lw := by
 have bq := d.app_box gg hr
 have br : Box W' w.heap.size 30 [.int .i64 0, .slice none 0 0, .slice none 0 0, .slice none 0 0] := d.r.other_type gg (fun q e => (hr q e).2.2) (by decide)
 have os : Ow Sl.cells 3 93 W' w.heap.size W'.heap.size vs ls := (d.os.other_type gg (fun q e => (hr q e).2.2) (by decide)).mono (Nat.le_refl _) gg.size
 have ow : Ow Wt.cells 2 107 W' w.heap.size W'.heap.size vw lw := (d.ow.other_type gg (fun q e => (hr q e).2.2) (by decide)).mono (Nat.le_refl _) gg.size
 obtain ⟨f1, f2, f3, f4⟩ := f
 have hs : (setL W' gQ 1 [v8]).heap.size = W'.heap.size := setL_size _ _ _ _
 have gS := setL_grown [v8] W' gQ 1
 have hG := grown_new d.G gg (fun q e => (hr q e).1)
 refine ⟨(d.h.grown gg (Nat.le_trans f2 d.size) (fun q e => .inr (by have := (hr q e).1; omega))).grown gS (by have := gg.size; have := d.size; omega) (fun q e => by injection e with e; omega), (d.c.row gg (fun q e => by have := (hr q e).1; omega)).other gS (by omega), grown_new hG gS (fun q e => by injection e with e; omega), br.other (by omega) 1 _, bq.set1 (j := 1) v8 (by simp), ?_, ?_, ?_⟩
 ·rw [hs]; exact o8.box bq (by decide) 1 _
 ·rw [hs]; exact os.box bq (by decide) 1 _
 ·rw [hs]; exact ow.box bq (by decide) 1 _
end
theorem Fa.good0 : Fa.good 16 [] [⟨0, 0, 0⟩, ⟨0, 0, 0⟩, ⟨0, 0, 0⟩, ⟨0, 0, 0⟩] [] = true := by
 rw [Fa.good_iff]
 refine ⟨by decide, Qu.good0, ?_⟩
 refine ⟨List.nodup_nil, fun i => ?_, List.Pairwise.nil⟩
 constructor
 ·intro h; simp at h
 ·rintro ⟨p, s, hs, ha, _⟩
  simp at hs
  subst hs
  simp [Sl.isAct] at ha
theorem Fa.fit {m : Int} {st : List Int} {ls : List Sl} {lw : List Wt} (h : Fa.good m st ls lw = true) : Qu.good ls lw = true ∧ st.length ≤ 4 ∧ ls.length = 4 ∧ lw.length ≤ 8 := by
 have h1 := FS.good_len (s := ⟨m, st, ls, lw⟩) h
 exact ⟨(Fa.good_iff.1 h).2.1, h1.1, h1.2.1, h1.2.2⟩
theorem Fa.good_tk {m : Int} {st : List Int} {ls : List Sl} {lw : List Wt} (h : Fa.good m st ls lw = true) : Fa.good m (Fa.tkT st ls (minI m (Fa.run st ls))) (Sl.tkL ls (minI m (Fa.run st ls))) lw = true := by
 unfold Fa.tkT Sl.tkL
 cases hk : Sl.tkOk ls (minI m (Fa.run st ls))
 ·simpa [hk] using h
 ·have := FS.took_good (s := ⟨m, st, ls, lw⟩) h hk
  simpa [hk, FS.took, FS.good] using this
theorem Fa.good_leave {m : Int} {st : List Int} {ls : List Sl} {lw : List Wt} (h : Fa.good m st ls lw = true) {j : Nat} {x : Int} (hj : j + 1 = st.length) (hx : st[j]? = some x) : Fa.good m (st.take j) (Qu.enP ls lw x).1 (Qu.enP ls lw x).2 = true := by
 have h1 := FS.left_good (s := ⟨m, st, ls, lw⟩) h (by show ¬ st.length = 0; omega)
 obtain ⟨_, e2, e3⟩ := Fa.top_at hj hx
 simpa [FS.left, FS.good, e2, e3] using h1
theorem Nm.appK_ow {w : World} {o : Oper} {a : Act} {Q : Exit → Act → World → Prop} {K : Act → World → Prop} (hgd : o.guard = none) (s x : Operand)
  (ho : o.op = .call { callee := .builtin .append, args := #[s, x], argTypes := #[24, 24] }) {lo hi n c : Nat} {A : Option Addr} {l : List Int} (hs : a.eval s = .slice A n c) (h : Ow Nm.cells 1 3 w lo hi (.slice A n c) l)
  (g cx : Nat) (y : Int) (hx : a.eval x = .slice (some ⟨g, 0, none⟩) 1 cx) (hr : ∀ j u, (Nm.cells y)[j]? = some u → w.cell? ⟨g, j, none⟩ = some u) (hlen : n ≤ 4194304) (hlo : lo ≤ w.heap.size) (hhi : hi ≤ w.heap.size)
  (hk : ∀ v' w' row, Ow Nm.cells 1 3 w' lo w'.heap.size v' (l ++ [y]) → w.grownBy w' row → (∀ q, row = some q → lo ≤ q ∧ q < hi ∧ ∃ cur, w.heap[q]? = some (.cells cur 3 (0, 0))) → K (a.put o.dst v') w') {ops : Array Oper} : if Region.wanted o (yielded ops a.tmps) = true then Oper.wp Tryz.prog o a w K Q else K (a.put o.dst undef) w := by
 have hw : Region.wanted o (yielded ops a.tmps) = true := by simp [Region.wanted, hgd]
 rw [if_pos hw]
 obtain ⟨i0, hi0, hz0, hz1, hz2⟩ := info_parts Nm.info
 obtain ⟨v', w', hrun, h2, row, h3, h4⟩ := run_app_ow (P := Tryz.prog) w 24 o.type _ i0 _ 1 _ Tryz.underlying24 hi0 hz0 hz1 hz2 rfl (by omega) Nm.cells_len Nm.one h g cx y hr (by unfold maxLen; omega) (by omega) hlo hhi
 unfold Oper.wp execOp
 simp only [ho, resolve, invoke, builtin, Sem.run_bind, Sem.run_pure, Result.andThen_ok, List.map_toArray, List.map_cons, List.map_nil, hs, hx, hrun]
 exact hk v' w' row h2 h3 h4

set_option maxRecDepth 8000 in
set_option maxHeartbeats 16000000 in
theorem iface_any (g k : Nat) (cv : Value) (l : List UInt8) (w : World) {lo hi : Nat} (h : Rd By.cells 1 w lo hi cv l) (hh : hi ≤ w.heap.size) (hg : g < lo ∨ hi ≤ g) (hc : Cur w g cv k) (hk : k ≤ 40000) :
  Calls Tryz.prog 48 #[.pointer (some ⟨g, 0, none⟩)] w fun e w' => ∃ (m : Int) (vt vs vw : Value) (st : List Int) (ls : List Sl) (lw : List Wt), e = .returned (.agg #[.int .i64 m, vt, vs, vw]) ∧ st.length ≤ 5 ∧ ls.length ≤ 5 ∧ lw.length ≤ 9 ∧ Ow Nm.cells 1 3 w' w.heap.size w'.heap.size vt st ∧ Ow Sl.cells 3 93 w' w.heap.size w'.heap.size vs ls ∧ Ow Wt.cells 2 107 w' w.heap.size w'.heap.size vw lw ∧ w.grownBy w' (some g) ∧ Cur w' g cv (k + 700) := by
 have hgl := hc.lt
 go_enter Tryz.func48, Tryz.ntmps48
 have bR0 := Box.new w #[.int .i64 0, .slice none 0 0, .slice none 0 0, .slice none 0 0] 30 rfl
 have B1 := (Below.refl w.heap.size w).alloc (Nat.le_refl _) (.cells #[.int .i64 0, .slice none 0 0, .slice none 0 0, .slice none 0 0] 30)
 have z1 : (w.alloc (.cells #[.int .i64 0, .slice none 0 0, .slice none 0 0, .slice none 0 0] 30)).heap.size = w.heap.size + 1 := by simp
 go_wp2_with fail
 generalize w.alloc (.cells #[.int .i64 0, .slice none 0 0, .slice none 0 0, .slice none 0 0] 30) = w1 at *
 have l1_ := (Below.refl w1.heap.size w1).alloc (Nat.le_refl _) (.cells #[] 3)
 have o0 : Ow Nm.cells 1 3 (w1.alloc (.cells #[] 3)) w.heap.size (w1.alloc (.cells #[] 3)).heap.size (.slice (some ⟨w.heap.size + 1, 0, none⟩) 0 0) [] := Ow.lit0
 have z2 : (w1.alloc (.cells #[] 3)).heap.size = w1.heap.size + 1 := by simp
 replace bR0 := bR0.below l1_ bR0.lt
 replace B1 := B1.trans (l1_.mono (by omega))
 rw [z1] at z2
 clear l1_
 generalize w1.alloc (.cells #[] 3) = w2 at *
 have o1 := lit_slots w2
 have l2 := (Below.refl w2.heap.size w2).alloc (Nat.le_refl _) (.cells #[.int .i64 0, .int .i64 0, .int .i64 0, .int .i64 0, .int .i64 0, .int .i64 0, .int .i64 0, .int .i64 0, .int .i64 0, .int .i64 0, .int .i64 0, .int .i64 0] 93)
 have z3 : (w2.alloc (.cells #[.int .i64 0, .int .i64 0, .int .i64 0, .int .i64 0, .int .i64 0, .int .i64 0, .int .i64 0, .int .i64 0, .int .i64 0, .int .i64 0, .int .i64 0, .int .i64 0] 93)).heap.size = w2.heap.size + 1 := by simp
 replace bR0 := bR0.below l2 bR0.lt
 replace B1 := B1.trans (l2.mono (by omega))
 replace o0 := o0.below l2 (Nat.le_refl _)
 rw [z2] at o1 z3
 clear l2
 generalize w2.alloc (.cells #[.int .i64 0, .int .i64 0, .int .i64 0, .int .i64 0, .int .i64 0, .int .i64 0, .int .i64 0, .int .i64 0, .int .i64 0, .int .i64 0, .int .i64 0, .int .i64 0] 93) = w3 at *
 have l3 := (Below.refl w3.heap.size w3).alloc (Nat.le_refl _) (.cells #[] 107)
 have o2 : Ow Wt.cells 2 107 (w3.alloc (.cells #[] 107)) w.heap.size (w3.alloc (.cells #[] 107)).heap.size (.slice (some ⟨w.heap.size + 1 + 1 + 1, 0, none⟩) 0 0) [] := Ow.lit0
 have z4 : (w3.alloc (.cells #[] 107)).heap.size = w3.heap.size + 1 := by simp
 replace bR0 := bR0.below l3 bR0.lt
 replace B1 := B1.trans (l3.mono (by omega))
 replace o0 := o0.below l3 (by omega)
 replace o1 := o1.below l3 (by omega)
 rw [z3] at z4
 clear l3
 generalize w3.alloc (.cells #[] 107) = w4 at *
 have l4 := (Below.refl w4.heap.size w4).alloc (Nat.le_refl _) (.cells #[.int .i64 16, .slice (some ⟨w.heap.size + 1, 0, none⟩) 0 0, .slice (some ⟨w.heap.size + 1 + 1, 0, none⟩) 4 4, .slice (some ⟨w.heap.size + 1 + 1 + 1, 0, none⟩) 0 0] 30)
 have bQ := Box.new (g := (w.heap.size + 1 + 1 + 1 + 1)) w4 #[.int .i64 16, .slice (some ⟨w.heap.size + 1, 0, none⟩) 0 0, .slice (some ⟨w.heap.size + 1 + 1, 0, none⟩) 4 4, .slice (some ⟨w.heap.size + 1 + 1 + 1, 0, none⟩) 0 0] 30 z4.symm
 have z5 : (w4.alloc (.cells #[.int .i64 16, .slice (some ⟨w.heap.size + 1, 0, none⟩) 0 0, .slice (some ⟨w.heap.size + 1 + 1, 0, none⟩) 4 4, .slice (some ⟨w.heap.size + 1 + 1 + 1, 0, none⟩) 0 0] 30)).heap.size = w4.heap.size + 1 := by simp
 replace bR0 := bR0.below l4 bR0.lt
 replace B1 := B1.trans (l4.mono (by omega))
 replace o0 := o0.below l4 (by omega)
 replace o1 := o1.below l4 (by omega)
 replace o2 := o2.below l4 (by omega)
 clear l4
 generalize w4.alloc (.cells #[.int .i64 16, .slice (some ⟨w.heap.size + 1, 0, none⟩) 0 0, .slice (some ⟨w.heap.size + 1 + 1, 0, none⟩) 4 4, .slice (some ⟨w.heap.size + 1 + 1 + 1, 0, none⟩) 0 0] 30) = w5 at *
 have HF : DQF w g lo hi (w.heap.size + 1 + 1 + 1 + 1) := ⟨hg, hh, hgl, by omega⟩
 have hq : DF w g cv l lo hi k w5 (w.heap.size + 1 + 1 + 1 + 1) 16 _ _ _ _ _ _ := ⟨h.below B1 hh, hc.grown0 (grown_below B1), grown_weaken (grown_below B1), bR0, bQ, o0.mono (by omega) (by omega), o1.mono (by omega) (by omega), o2.mono (by omega) (by omega)⟩
 clear h hc bR0 B1 o0 o1 o2 bQ z1 z2 z3 z4 z5
 have hg0 := Lib.hid Fa.good0
 generalize w.heap.size + 1 + 1 + 1 + 1 = gQ at *
 have hgQ : w.heap.size < gQ := HF.hq
 refine (pick_any g _ _ l 14 _ hq.h (DF.hle HF hq) hg hq.c (by omega) (by omega)).mono ?_; rintro q_ wp_x1 ⟨x1, rfl, x1_0, x1_1, gg, kk⟩
 replace hq := hq.pick HF gg kk
 clear gg kk
 obtain ⟨mm, rfl⟩ : ∃ m : Nat, x1 = m := ⟨x1.toNat, by omega⟩
 have hm9 : mm < 14 := by omega
 clear x1_0 x1_1
 go_wp2_with fail
 go_loopw [4] (fun v4 wr => ∃ (i q : Nat) (st : List Int) (ls : List Sl) (lw : List Wt) (At A0 A1 : Option Addr) (nt ct n0 c0 n1 c1 : Nat), i + q = mm ∧ v4 = .int .i64 q ∧ Hid (Fa.good 16 st ls lw = true) ∧ DF w g cv l lo hi (k + 2 + 8 * i) wr gQ 16 (.slice At nt ct) (.slice A0 n0 c0) (.slice A1 n1 c1) st ls lw) (fun v4 _ => (intOf v4).toNat)
 case atStart => exact ⟨0, mm, _, _, _, _, _, _, _, _, _, _, _, _, by omega, rfl, hg0, hq⟩
 case round =>
  clear hq hg0
  obtain ⟨i, q, st, ls, lw, At, A0, A1, nt, ct, n0, c0, n1, c1, hiq, rfl, HGd, hq⟩ := hrel
  have HFt := Lib.hid (Fa.fit HGd.out)
  rcases Nat.eq_zero_or_pos q with hz | hz
  rotate_left
  ·obtain ⟨p, rfl⟩ : ∃ p, q = p + 1 := ⟨q - 1, by omega⟩
   have hqd : decide ((0 : Int) < ((p + 1 : Nat) : Int)) = true := decide_eq_true (by omega)
   have bq0 := hq.q.c0
   have bq1 := hq.q.c1
   have bq2 := hq.q.c2
   have bq3 := hq.q.c3
   have bqz := hq.q.frozen
   have bql := hq.q.lt
   go_wp2_with fail
   clear bq0 bq1 bq2 bq3 bqz bql
   refine (pick_any g _ _ l 6 _ hq.h (DF.hle HF hq) hg hq.c (by omega) (by omega)).mono ?_; rintro q_ wp_y1 ⟨y1, rfl, y1_0, y1_1, gg, kk⟩
   replace hq := hq.pick HF gg kk
   clear gg kk
   rcases (show y1 = 0 ∨ y1 = 1 ∨ y1 = 2 ∨ y1 = 3 ∨ y1 = 4 ∨ y1 = 5 by omega) with rfl | rfl | rfl | rfl | rfl | rfl
   all_goals clear y1_0 y1_1
   ·go_upto_region 9 with fail
    have hPp := Lib.hid (Qu.good_parts HFt.out.1).1
    have hL4 : st.length ≤ 1048576 := by have := HFt.out.2.1; omega
    replace hq := hq.below HF (Below.refl _ _).drew
    have bq0 := hq.q.c0
    have bq1 := hq.q.c1
    have bq2 := hq.q.c2
    have bq3 := hq.q.c3
    have bqz := hq.q.frozen
    have bql := hq.q.lt
    go_region_with (first | (go_at_call 61; refine (pick_any g _ _ l _ _ hq.h (DF.hle HF hq) hg hq.c (by omega) (by omega)).mono ?_; rintro q_ wp ⟨y, rfl, y_0, y_1, gg, kk⟩; (replace hq := hq.pick HF gg kk); (have bq0 := hq.q.c0); (have bq1 := hq.q.c1); (have bq2 := hq.q.c2); (have bq3 := hq.q.c3); (have bqz := hq.q.frozen); (have bql := hq.q.lt)) | (go_at_call 56; refine (specRaise_in 16 _ _ _ st ls lw _ hq.ot.rd hq.os.rd hq.ow.rd (Nat.le_refl _) (Nat.le_refl _) (Nat.le_refl _) _ _ hL4 hPp.out (inB_mk (by omega)) (inB_mk (by omega))).mono ?_; rintro q_ wo ⟨v4, v5, v6, rfl, o4, o5, o6, bb⟩; (obtain ⟨A4, n4, c4, rfl, _, _, _⟩ := o4.rd.form); (obtain ⟨A5, n5, c5, rfl, _, _, _⟩ := o5.rd.form); (obtain ⟨A6, n6, c6, rfl, _, _, _⟩ := o6.rd.form); (have zb := hq.size); (replace hq := hq.below HF bb); (have bq0 := hq.q.c0); (have bq1 := hq.q.c1); (have bq2 := hq.q.c2); (have bq3 := hq.q.c3); (have bqz := hq.q.frozen); (have bql := hq.q.lt)))
    all_goals
     go_wp2_with fail
     generalize hwz : World.setCell (World.setCell (World.setCell (World.setCell _ _ _) _ _) _ _) _ _ = wz_
     obtain rfl : wz_ = setL wo gQ 0 [.int .i64 16, .slice A4 n4 c4, .slice A5 n5 c5, .slice A6 n6 c6] := hwz.symm
     clear hwz
     replace hq := hq.store HF (o4.mono (by omega) (Nat.le_refl _)) (o5.mono (by omega) (Nat.le_refl _)) (o6.mono (by omega) (Nat.le_refl _))
     generalize setL wo _ 0 _ = wS at *
     go_roundw
     case rel => exact ⟨i + 1, p, _, _, _, _, _, _, _, _, _, _, _, _, by omega, by go_num, Lib.hid (FS.rose_good (s := ⟨16, st, ls, lw⟩) HGd.out (inB_mk (by omega)) (inB_mk (by omega))), ⟨hq.h, hq.c.mono (by omega), hq.G, hq.r, hq.q, hq.ot, hq.os, hq.ow⟩⟩
     case measure => simp [intOf]
   ·go_upto_region 9 with fail
    have hPp := Lib.hid (Qu.good_parts HFt.out.1).1
    have hL4 : st.length ≤ 1048576 := by have := HFt.out.2.1; omega
    replace hq := hq.below HF (Below.refl _ _).drew
    have bq0 := hq.q.c0
    have bq1 := hq.q.c1
    have bq2 := hq.q.c2
    have bq3 := hq.q.c3
    have bqz := hq.q.frozen
    have bql := hq.q.lt
    go_region_with (first | (go_at_call 61; refine (pick_any g _ _ l _ _ hq.h (DF.hle HF hq) hg hq.c (by omega) (by omega)).mono ?_; rintro q_ wp ⟨y, rfl, y_0, y_1, gg, kk⟩; (replace hq := hq.pick HF gg kk); (have bq0 := hq.q.c0); (have bq1 := hq.q.c1); (have bq2 := hq.q.c2); (have bq3 := hq.q.c3); (have bqz := hq.q.frozen); (have bql := hq.q.lt)) | (go_at_call 56; refine (specRaise_in 16 _ _ _ st ls lw _ hq.ot.rd hq.os.rd hq.ow.rd (Nat.le_refl _) (Nat.le_refl _) (Nat.le_refl _) _ _ hL4 hPp.out (inB_mk (by omega)) (inB_mk (by omega))).mono ?_; rintro q_ wo ⟨v4, v5, v6, rfl, o4, o5, o6, bb⟩; (obtain ⟨A4, n4, c4, rfl, _, _, _⟩ := o4.rd.form); (obtain ⟨A5, n5, c5, rfl, _, _, _⟩ := o5.rd.form); (obtain ⟨A6, n6, c6, rfl, _, _, _⟩ := o6.rd.form); (have zb := hq.size); (replace hq := hq.below HF bb); (have bq0 := hq.q.c0); (have bq1 := hq.q.c1); (have bq2 := hq.q.c2); (have bq3 := hq.q.c3); (have bqz := hq.q.frozen); (have bql := hq.q.lt)))
    all_goals
     go_wp2_with fail
     generalize hwz : World.setCell (World.setCell (World.setCell (World.setCell _ _ _) _ _) _ _) _ _ = wz_
     obtain rfl : wz_ = setL wo gQ 0 [.int .i64 16, .slice A4 n4 c4, .slice A5 n5 c5, .slice A6 n6 c6] := hwz.symm
     clear hwz
     replace hq := hq.store HF (o4.mono (by omega) (Nat.le_refl _)) (o5.mono (by omega) (Nat.le_refl _)) (o6.mono (by omega) (Nat.le_refl _))
     generalize setL wo _ 0 _ = wS at *
     go_roundw
     case rel => exact ⟨i + 1, p, _, _, _, _, _, _, _, _, _, _, _, _, by omega, by go_num, Lib.hid (FS.rose_good (s := ⟨16, st, ls, lw⟩) HGd.out (inB_mk (by omega)) (inB_mk (by omega))), ⟨hq.h, hq.c.mono (by omega), hq.G, hq.r, hq.q, hq.ot, hq.os, hq.ow⟩⟩
     case measure => simp [intOf]
   ·go_upto_region 9 with fail
    have hPp := Lib.hid (Qu.good_parts HFt.out.1).1
    have hL4 : st.length ≤ 1048576 := by have := HFt.out.2.1; omega
    replace hq := hq.below HF (Below.refl _ _).drew
    have bq0 := hq.q.c0
    have bq1 := hq.q.c1
    have bq2 := hq.q.c2
    have bq3 := hq.q.c3
    have bqz := hq.q.frozen
    have bql := hq.q.lt
    go_region_with (first | (go_at_call 61; refine (pick_any g _ _ l _ _ hq.h (DF.hle HF hq) hg hq.c (by omega) (by omega)).mono ?_; rintro q_ wp ⟨y, rfl, y_0, y_1, gg, kk⟩; (replace hq := hq.pick HF gg kk); (have bq0 := hq.q.c0); (have bq1 := hq.q.c1); (have bq2 := hq.q.c2); (have bq3 := hq.q.c3); (have bqz := hq.q.frozen); (have bql := hq.q.lt)) | (go_at_call 56; refine (specRaise_in 16 _ _ _ st ls lw _ hq.ot.rd hq.os.rd hq.ow.rd (Nat.le_refl _) (Nat.le_refl _) (Nat.le_refl _) _ _ hL4 hPp.out (inB_mk (by omega)) (inB_mk (by omega))).mono ?_; rintro q_ wo ⟨v4, v5, v6, rfl, o4, o5, o6, bb⟩; (obtain ⟨A4, n4, c4, rfl, _, _, _⟩ := o4.rd.form); (obtain ⟨A5, n5, c5, rfl, _, _, _⟩ := o5.rd.form); (obtain ⟨A6, n6, c6, rfl, _, _, _⟩ := o6.rd.form); (have zb := hq.size); (replace hq := hq.below HF bb); (have bq0 := hq.q.c0); (have bq1 := hq.q.c1); (have bq2 := hq.q.c2); (have bq3 := hq.q.c3); (have bqz := hq.q.frozen); (have bql := hq.q.lt)))
    all_goals
     go_wp2_with fail
     generalize hwz : World.setCell (World.setCell (World.setCell (World.setCell _ _ _) _ _) _ _) _ _ = wz_
     obtain rfl : wz_ = setL wo gQ 0 [.int .i64 16, .slice A4 n4 c4, .slice A5 n5 c5, .slice A6 n6 c6] := hwz.symm
     clear hwz
     replace hq := hq.store HF (o4.mono (by omega) (Nat.le_refl _)) (o5.mono (by omega) (Nat.le_refl _)) (o6.mono (by omega) (Nat.le_refl _))
     generalize setL wo _ 0 _ = wS at *
     go_roundw
     case rel => exact ⟨i + 1, p, _, _, _, _, _, _, _, _, _, _, _, _, by omega, by go_num, Lib.hid (FS.rose_good (s := ⟨16, st, ls, lw⟩) HGd.out (inB_mk (by omega)) (inB_mk (by omega))), ⟨hq.h, hq.c.mono (by omega), hq.G, hq.r, hq.q, hq.ot, hq.os, hq.ow⟩⟩
     case measure => simp [intOf]
   ·have bq0 := hq.q.c0
    have bq1 := hq.q.c1
    have bq2 := hq.q.c2
    have bq3 := hq.q.c3
    have bqz := hq.q.frozen
    have bql := hq.q.lt
    go_wp2_with fail
    clear bq0 bq1 bq2 bq3 bqz bql
    have zb := hq.size
    have hL4 : st.length ≤ 1048576 := by have := HFt.out.2.1; omega
    have hL8 : lw.length ≤ 1048576 := by have := HFt.out.2.2.2; omega
    refine (specTakeF_in 16 _ _ _ st ls lw _ hq.ot.rd hq.os.rd hq.ow.rd (Nat.le_refl _) (Nat.le_refl _) (Nat.le_refl _) (Fa.good_sl HGd.out) (Fa.slots HGd.out) hL4 hL8).mono ?_; rintro q_ wo ⟨v4, v5, v6, rfl, o4, o5, o6, bb⟩
    obtain ⟨A4, n4, c4, rfl, _, _, _⟩ := o4.rd.form
    obtain ⟨A5, n5, c5, rfl, _, _, _⟩ := o5.rd.form
    obtain ⟨A6, n6, c6, rfl, _, _, _⟩ := o6.rd.form
    replace hq := hq.below HF bb
    have bq0 := hq.q.c0
    have bq1 := hq.q.c1
    have bq2 := hq.q.c2
    have bq3 := hq.q.c3
    have bqz := hq.q.frozen
    have bql := hq.q.lt
    go_wp2_with fail
    clear bq0 bq1 bq2 bq3 bqz bql
    generalize hwz : World.setCell (World.setCell (World.setCell (World.setCell _ _ _) _ _) _ _) _ _ = wz_
    obtain rfl : wz_ = setL wo gQ 0 [.int .i64 16, .slice A4 n4 c4, .slice A5 n5 c5, .slice A6 n6 c6] := hwz.symm
    clear hwz
    replace hq := hq.store HF (o4.mono (by omega) (Nat.le_refl _)) (o5.mono (by omega) (Nat.le_refl _)) (o6.mono (by omega) (Nat.le_refl _))
    generalize setL wo _ 0 _ = wS at *
    go_roundw
    case rel => exact ⟨i + 1, p, _, _, _, _, _, _, _, _, _, _, _, _, by omega, by go_num, Lib.hid (Fa.good_tk HGd.out), ⟨hq.h, hq.c.mono (by omega), hq.G, hq.r, hq.q, hq.ot, hq.os, hq.ow⟩⟩
    case measure => simp [intOf]
   ·have bq0 := hq.q.c0
    have bq1 := hq.q.c1
    have bq2 := hq.q.c2
    have bq3 := hq.q.c3
    have bqz := hq.q.frozen
    have bql := hq.q.lt
    go_wp2_with fail
    clear bq0 bq1 bq2 bq3 bqz bql
    have zb := hq.size
    have hL4 : st.length ≤ 1048576 := by have := HFt.out.2.1; omega
    have hL8 : lw.length ≤ 1048576 := by have := HFt.out.2.2.2; omega
    refine (specTakeF_in 16 _ _ _ st ls lw _ hq.ot.rd hq.os.rd hq.ow.rd (Nat.le_refl _) (Nat.le_refl _) (Nat.le_refl _) (Fa.good_sl HGd.out) (Fa.slots HGd.out) hL4 hL8).mono ?_; rintro q_ wo ⟨v4, v5, v6, rfl, o4, o5, o6, bb⟩
    obtain ⟨A4, n4, c4, rfl, _, _, _⟩ := o4.rd.form
    obtain ⟨A5, n5, c5, rfl, _, _, _⟩ := o5.rd.form
    obtain ⟨A6, n6, c6, rfl, _, _, _⟩ := o6.rd.form
    replace hq := hq.below HF bb
    have bq0 := hq.q.c0
    have bq1 := hq.q.c1
    have bq2 := hq.q.c2
    have bq3 := hq.q.c3
    have bqz := hq.q.frozen
    have bql := hq.q.lt
    go_wp2_with fail
    clear bq0 bq1 bq2 bq3 bqz bql
    generalize hwz : World.setCell (World.setCell (World.setCell (World.setCell _ _ _) _ _) _ _) _ _ = wz_
    obtain rfl : wz_ = setL wo gQ 0 [.int .i64 16, .slice A4 n4 c4, .slice A5 n5 c5, .slice A6 n6 c6] := hwz.symm
    clear hwz
    replace hq := hq.store HF (o4.mono (by omega) (Nat.le_refl _)) (o5.mono (by omega) (Nat.le_refl _)) (o6.mono (by omega) (Nat.le_refl _))
    generalize setL wo _ 0 _ = wS at *
    go_roundw
    case rel => exact ⟨i + 1, p, _, _, _, _, _, _, _, _, _, _, _, _, by omega, by go_num, Lib.hid (Fa.good_tk HGd.out), ⟨hq.h, hq.c.mono (by omega), hq.G, hq.r, hq.q, hq.ot, hq.os, hq.ow⟩⟩
    case measure => simp [intOf]
   ·have bq0 := hq.q.c0
    have bq1 := hq.q.c1
    have bq2 := hq.q.c2
    have bq3 := hq.q.c3
    have bqz := hq.q.frozen
    have bql := hq.q.lt
    go_wp2_with fail
    clear bq0 bq1 bq2 bq3 bqz bql
    have zb := hq.size
    have hL4 : st.length ≤ 1048576 := by have := HFt.out.2.1; omega
    have hPp := Lib.hid (Qu.good_parts HFt.out.1).1
    rcases Nat.eq_zero_or_pos st.length with hz0 | hz0
    ·have hst : st = [] := List.eq_nil_of_length_eq_zero hz0
     refine (specLeave_nil 16 _ _ _ st ls lw _ hq.ot.rd hq.os.rd hq.ow.rd (Nat.le_refl _) (Nat.le_refl _) (Nat.le_refl _) hst).mono ?_; rintro q_ wo ⟨rfl, bb⟩
     replace hq := hq.below HF bb
     clear hst
     have bq0 := hq.q.c0
     have bq1 := hq.q.c1
     have bq2 := hq.q.c2
     have bq3 := hq.q.c3
     have bqz := hq.q.frozen
     have bql := hq.q.lt
     go_wp2_with fail
     clear bq0 bq1 bq2 bq3 bqz bql
     generalize hwz : World.setCell (World.setCell (World.setCell (World.setCell _ _ _) _ _) _ _) _ _ = wz_
     obtain rfl : wz_ = setL wo gQ 0 [.int .i64 16, .slice At nt ct, .slice A0 n0 c0, .slice A1 n1 c1] := hwz.symm
     clear hwz
     replace hq := hq.store HF hq.ot hq.os hq.ow
     generalize setL wo _ 0 _ = wS at *
     go_roundw
     case rel => exact ⟨i + 1, p, _, _, _, _, _, _, _, _, _, _, _, _, by omega, by go_num, HGd, ⟨hq.h, hq.c.mono (by omega), hq.G, hq.r, hq.q, hq.ot, hq.os, hq.ow⟩⟩
     case measure => simp [intOf]
    ·obtain ⟨j, hj⟩ : ∃ j, j + 1 = st.length := ⟨st.length - 1, by omega⟩
     obtain ⟨x, hx⟩ : ∃ x, st[j]? = some x := ⟨_, List.getElem?_eq_getElem (show j < st.length by omega)⟩
     have HG2 := Lib.hid (Fa.good_leave HGd.out hj hx)
     have hk := (Fa.lv_end HGd.out hj hx).1
     refine (specLeave_in 16 _ _ _ st ls lw _ hq.ot.rd hq.os.rd hq.ow.rd (Nat.le_refl _) (Nat.le_refl _) (Nat.le_refl _) hL4 hPp.out hj hx hk).mono ?_; rintro q_ wo ⟨v4, v5, v6, rfl, o4, o5, o6, bb⟩
     obtain ⟨A4, n4, c4, rfl, _, _, _⟩ := o4.rd.form
     obtain ⟨A5, n5, c5, rfl, _, _, _⟩ := o5.rd.form
     obtain ⟨A6, n6, c6, rfl, _, _, _⟩ := o6.rd.form
     replace hq := hq.below HF bb
     clear hj hx hk
     have bq0 := hq.q.c0
     have bq1 := hq.q.c1
     have bq2 := hq.q.c2
     have bq3 := hq.q.c3
     have bqz := hq.q.frozen
     have bql := hq.q.lt
     go_wp2_with fail
     clear bq0 bq1 bq2 bq3 bqz bql
     generalize hwz : World.setCell (World.setCell (World.setCell (World.setCell _ _ _) _ _) _ _) _ _ = wz_
     obtain rfl : wz_ = setL wo gQ 0 [.int .i64 16, .slice A4 n4 c4, .slice A5 n5 c5, .slice A6 n6 c6] := hwz.symm
     clear hwz
     replace hq := hq.store HF (o4.mono (by omega) (Nat.le_refl _)) (o5.mono (by omega) (Nat.le_refl _)) (o6.mono (by omega) (Nat.le_refl _))
     generalize setL wo _ 0 _ = wS at *
     go_roundw
     case rel => exact ⟨i + 1, p, _, _, _, _, _, _, _, _, _, _, _, _, by omega, by go_num, HG2, ⟨hq.h, hq.c.mono (by omega), hq.G, hq.r, hq.q, hq.ot, hq.os, hq.ow⟩⟩
     case measure => simp [intOf]
  obtain rfl : i = mm := by omega
  subst hz
  have hF1 : st.length ≤ 4 := HFt.out.2.1
  have hF2 : ls.length ≤ 5 := by have := HFt.out.2.2.1; omega
  have hF3 : lw.length ≤ 9 := by have := HFt.out.2.2.2; omega
  clear HFt HGd
  have bq0 := hq.q.c0
  have bq1 := hq.q.c1
  have bq2 := hq.q.c2
  have bq3 := hq.q.c3
  have bqz := hq.q.frozen
  have bql := hq.q.lt
  go_wp2_with fail
  clear bq0 bq1 bq2 bq3 bqz bql
  refine (one_any g _ _ l 3 _ hq.h (DF.hle HF hq) hg hq.c (by omega) (by omega)).mono ?_; rintro q_ wp_z0 ⟨z0, rfl, gg, kk⟩
  replace hq := hq.pick HF gg kk
  clear gg kk
  cases z0
  ·have bq0 := hq.q.c0
   have bq1 := hq.q.c1
   have bq2 := hq.q.c2
   have bq3 := hq.q.c3
   have bqz := hq.q.frozen
   have bql := hq.q.lt
   go_wp2_with fail
   clear bq0 bq1 bq2 bq3 bqz bql
   refine (pick_any g _ _ l 24 _ hq.h (DF.hle HF hq) hg hq.c (by omega) (by omega)).mono ?_; rintro q_ wp_z1 ⟨z1, rfl, z1_0, z1_1, gg, kk⟩
   replace hq := hq.pick HF gg kk
   clear gg kk
   by_cases h0 : z1 = 0
   rotate_left
   by_cases h1 : z1 = 1
   rotate_left
   by_cases h2 : z1 = 2
   rotate_left
   ·have h0b : (z1 == 0) = false := by rw [beq_eq_false_iff_ne]; exact h0
    have h1b : (z1 == 1) = false := by rw [beq_eq_false_iff_ne]; exact h1
    have h2b : (z1 == 2) = false := by rw [beq_eq_false_iff_ne]; exact h2
    have bq0 := hq.q.c0
    have bq1 := hq.q.c1
    have bq2 := hq.q.c2
    have bq3 := hq.q.c3
    have bqz := hq.q.frozen
    have bql := hq.q.lt
    have br0 := hq.r.c0
    have br1 := hq.r.c1
    have br2 := hq.r.c2
    have br3 := hq.r.c3
    have brz := hq.r.frozen
    have brl := hq.r.lt
    go_wp2_with fail
    clear br0 br1 br2 br3 brz brl
    clear bq0 bq1 bq2 bq3 bqz bql
    generalize hwz : World.setCell (World.setCell (World.setCell (World.setCell _ _ _) _ _) _ _) _ _ = wz_
    obtain rfl : wz_ = setL wp_z1 (w.heap.size) 0 [.int .i64 16, .slice At nt ct, .slice A0 n0 c0, .slice A1 n1 c1] := hwz.symm
    clear hwz
    have o0 := hq.ot.box hq.r (by decide) 0 [.int .i64 16, .slice At nt ct, .slice A0 n0 c0, .slice A1 n1 c1]
    have o1 := hq.os.box hq.r (by decide) 0 [.int .i64 16, .slice At nt ct, .slice A0 n0 c0, .slice A1 n1 c1]
    have o2 := hq.ow.box hq.r (by decide) 0 [.int .i64 16, .slice At nt ct, .slice A0 n0 c0, .slice A1 n1 c1]
    have gS := setL_grown [.int .i64 16, .slice At nt ct, .slice A0 n0 c0, .slice A1 n1 c1] wp_z1 (w.heap.size) 0
    have hG := grown_new hq.G gS (fun q e => by injection e with e; omega)
    have hc := hq.c.other gS (by omega)
    have bR := hq.r.setAll [.int .i64 16, .slice At nt ct, .slice A0 n0 c0, .slice A1 n1 c1] rfl
    have zS : (setL wp_z1 (w.heap.size) 0 [.int .i64 16, .slice At nt ct, .slice A0 n0 c0, .slice A1 n1 c1]).heap.size = wp_z1.heap.size := setL_size _ _ _ _
    generalize setL wp_z1 _ 0 _ = wE at *
    have u0_ := bR.c0
    have u1_ := bR.c1
    have u2_ := bR.c2
    have u3_ := bR.c3
    have F4 : st.length ≤ 5 := by omega
    have F5 := hF2
    have F9 := hF3
    have O0 := o0.mono (Nat.le_refl _) (Nat.le_of_eq zS.symm)
    have O1 := o1.mono (Nat.le_refl _) (Nat.le_of_eq zS.symm)
    have O2 := o2.mono (Nat.le_refl _) (Nat.le_of_eq zS.symm)
    have hc2 : Cur wE g cv (k + 700) := hc.mono (by omega)
    refine bodyPost_ret (by simp only [results, Tryz.results48]; simp [go_sem, u0_, u1_, u2_, u3_]; rfl) rfl ?_
    first | exact ⟨_, _, _, _, _, _, _, rfl, F4, F5, F9, O0, O1, O2, hG, hc2⟩ | exact ⟨_, _, _, _, rfl, _, F4, _, F5, _, F9, O0, O1, O2, hG, hc2⟩
   ·subst h0
    have bq0 := hq.q.c0
    have bq1 := hq.q.c1
    have bq2 := hq.q.c2
    have bq3 := hq.q.c3
    have bqz := hq.q.frozen
    have bql := hq.q.lt
    go_wp2_with fail
    clear bq0 bq1 bq2 bq3 bqz bql
    have rl := lit_ints wp_z1 [-1, 17] #[.int .i64 (-1), .int .i64 17] 2 rfl rfl (by decide)
    have zl : (wp_z1.alloc (.cells #[.int .i64 (-1), .int .i64 17] 3)).heap.size = wp_z1.heap.size + 1 := by simp
    have zgl := hq.c.lt
    replace hq := hq.below HF ((Below.refl _ _).alloc (Nat.le_refl _) (.cells #[.int .i64 (-1), .int .i64 17] 3))
    generalize wp_z1.alloc _ = wl_m9 at *
    generalize wp_z1.heap.size = gl_m9 at *
    refine (among_any g _ _ _ l [-1, 17] _ hq.h (DF.hle HF hq) hg rl (by omega) (by omega) (by decide) (by decide) hq.c (by omega)).mono ?_; rintro q_ wp_m9 ⟨m9, rfl, gg, kk⟩
    replace hq := hq.pick HF gg kk
    clear gg kk rl zl zgl
    have bq0 := hq.q.c0
    have bq1 := hq.q.c1
    have bq2 := hq.q.c2
    have bq3 := hq.q.c3
    have bqz := hq.q.frozen
    have bql := hq.q.lt
    have br0 := hq.r.c0
    have br1 := hq.r.c1
    have br2 := hq.r.c2
    have br3 := hq.r.c3
    have brz := hq.r.frozen
    have brl := hq.r.lt
    go_upto_region 24 with fail
    clear br0 br1 br2 br3 brz brl
    clear bq0 bq1 bq2 bq3 bqz bql
    generalize hwz : World.setCell _ _ _ = wz_
    obtain rfl : wz_ = setL wp_m9 gQ 0 [.int .i64 m9] := hwz.symm
    clear hwz
    replace hq := hq.store0 HF m9
    generalize setL wp_m9 _ 0 _ = wS at *
    have bq0 := hq.q.c0
    have bq1 := hq.q.c1
    have bq2 := hq.q.c2
    have bq3 := hq.q.c3
    have bqz := hq.q.frozen
    have bql := hq.q.lt
    have br0 := hq.r.c0
    have br1 := hq.r.c1
    have br2 := hq.r.c2
    have br3 := hq.r.c3
    have brz := hq.r.frozen
    have brl := hq.r.lt
    go_wp2_with fail
    clear br0 br1 br2 br3 brz brl
    clear bq0 bq1 bq2 bq3 bqz bql
    generalize hwz : World.setCell (World.setCell (World.setCell (World.setCell _ _ _) _ _) _ _) _ _ = wz_
    obtain rfl : wz_ = setL wS (w.heap.size) 0 [.int .i64 m9, .slice At nt ct, .slice A0 n0 c0, .slice A1 n1 c1] := hwz.symm
    clear hwz
    have o0 := hq.ot.box hq.r (by decide) 0 [.int .i64 m9, .slice At nt ct, .slice A0 n0 c0, .slice A1 n1 c1]
    have o1 := hq.os.box hq.r (by decide) 0 [.int .i64 m9, .slice At nt ct, .slice A0 n0 c0, .slice A1 n1 c1]
    have o2 := hq.ow.box hq.r (by decide) 0 [.int .i64 m9, .slice At nt ct, .slice A0 n0 c0, .slice A1 n1 c1]
    have gS := setL_grown [.int .i64 m9, .slice At nt ct, .slice A0 n0 c0, .slice A1 n1 c1] wS (w.heap.size) 0
    have hG := grown_new hq.G gS (fun q e => by injection e with e; omega)
    have hc := hq.c.other gS (by omega)
    have bR := hq.r.setAll [.int .i64 m9, .slice At nt ct, .slice A0 n0 c0, .slice A1 n1 c1] rfl
    have zS : (setL wS (w.heap.size) 0 [.int .i64 m9, .slice At nt ct, .slice A0 n0 c0, .slice A1 n1 c1]).heap.size = wS.heap.size := setL_size _ _ _ _
    generalize setL wS _ 0 _ = wE at *
    have u0_ := bR.c0
    have u1_ := bR.c1
    have u2_ := bR.c2
    have u3_ := bR.c3
    have F4 : st.length ≤ 5 := by omega
    have F5 := hF2
    have F9 := hF3
    have O0 := o0.mono (Nat.le_refl _) (Nat.le_of_eq zS.symm)
    have O1 := o1.mono (Nat.le_refl _) (Nat.le_of_eq zS.symm)
    have O2 := o2.mono (Nat.le_refl _) (Nat.le_of_eq zS.symm)
    have hc2 : Cur wE g cv (k + 700) := hc.mono (by omega)
    refine bodyPost_ret (by simp only [results, Tryz.results48]; simp [go_sem, u0_, u1_, u2_, u3_]; rfl) rfl ?_
    first | exact ⟨_, _, _, _, _, _, _, rfl, F4, F5, F9, O0, O1, O2, hG, hc2⟩ | exact ⟨_, _, _, _, rfl, _, F4, _, F5, _, F9, O0, O1, O2, hG, hc2⟩
   ·subst h1
    have hnt : nt ≤ 4 := by have := hq.ot.rd.n_eq.1; omega
    have bq0 := hq.q.c0
    have bq1 := hq.q.c1
    have bq2 := hq.q.c2
    have bq3 := hq.q.c3
    have bqz := hq.q.frozen
    have bql := hq.q.lt
    go_upto_region 21 with fail
    clear bq0 bq1 bq2 bq3 bqz bql
    have hkq := hq.c
    refine wp_region_held_drew (S := fun _ => True) (by kernel_rfl) trivial (fun hHeld => ?_)
    refine wpAnyH_take (i := 0) (v := .pointer (some ⟨gQ, 1, none⟩)) rfl (by kernel_rfl) (by kernel_rfl) (by kernel_rfl) (fun _ _ _ h => h) (Or.inl ⟨by rfl, by intro w hSw; go_simp⟩) hHeld ?_
    refine wpAnyH_take (i := 2) (v := .pointer (some ⟨g, 0, none⟩)) rfl (by kernel_rfl) (by kernel_rfl) (by kernel_rfl) (fun _ _ _ h => h) (Or.inl ⟨by rfl, by intro w hSw; go_simp⟩) hHeld ?_
    clear hHeld hkq
    refine held_gen (F := fun W' => DF w g cv l lo hi _ W' gQ 16 (.slice At nt ct) (.slice A0 n0 c0) (.slice A1 n1 c1) st ls lw) (hq.below HF (Below.refl _ _).drew) ?_
    clear hq
    rintro wh hq
    refine wpAnyH_ready (rs := [1, 3]) (by kernel_rfl) (by decide) ?_
    refine AllReadyH.cons rfl (fun K1a hK1a => ?_) (AllReadyH.cons rfl (fun K1b hK1b => ?_) AllReadyH.nil)
    ·have bq0 := hq.q.c0
     have bq1 := hq.q.c1
     have bq2 := hq.q.c2
     have bq3 := hq.q.c3
     have bqz := hq.q.frozen
     have bql := hq.q.lt
     go_simp
     clear bq0 bq1 bq2 bq3 bqz bql
     refine hK1a.out _ _ trivial (fun _ => ?_)
     refine wpAnyH_ready (rs := [3]) (by kernel_rfl) (by decide) ?_
     refine AllReadyH.cons rfl (fun K2 hK2 => ?_) AllReadyH.nil
     go_simp
     refine (pick_any g _ _ l 8 _ hq.h (DF.hle HF hq) hg hq.c (by omega) (by omega)).mono ?_; rintro q_ wy ⟨yy, rfl, yy_0, yy_1, gg, kk⟩
     replace hq := hq.pick HF gg kk
     clear gg kk
     refine hK2.out _ _ trivial (fun _ => ?_)
     refine wpAnyH_ready (rs := [4]) (by kernel_rfl) (by decide) ?_
     refine AllReadyH.cons rfl (fun K3 hK3 => ?_) AllReadyH.nil
     go_simp
     have bb := (Below.refl wy.heap.size wy).alloc (Nat.le_refl _) (.cells #[.int .i64 yy] 3)
     have bN := Box.new wy #[.int .i64 yy] 3 rfl
     replace hq := hq.below HF bb
     clear bb
     generalize wy.alloc _ = wa at *
     generalize wy.heap.size = gN at *
     refine hK3.out _ _ trivial (fun _ => ?_)
     refine wpAnyH_ready (rs := [5]) (by kernel_rfl) (by decide) ?_
     refine AllReadyH.cons rfl (fun K4 hK4 => ?_) AllReadyH.nil
     refine Nm.appK_ow rfl _ _ rfl rfl hq.ot gN 1 yy rfl (fun j u hu => by rcases j with _ | j <;> simp [Nm.cells] at hu <;> subst hu <;> exact bN.c0) (by omega) hq.size (Nat.le_refl _) ?_
     intro v8 w8 row8 o8 g8 r8
     obtain ⟨A8, n8, c8, rfl, _, _, _⟩ := o8.rd.form
     have bq8 := hq.app_box g8 r8
     replace hq := hq.app HF g8 r8 o8
     refine hK4.out _ _ trivial (fun _ => ?_)
     have hHeld : (fun (_ : World) => True) w8 := trivial
     refine wpAnyH_take (i := 6) (v := .pointer (some ⟨gQ, 1, none⟩)) rfl (by kernel_rfl) (by kernel_rfl) (by kernel_rfl) (fun _ _ _ h => h) (Or.inl ⟨by rfl, by intro w hSw; go_simp⟩) hHeld ?_
     clear hHeld
     refine wpAnyH_ready (rs := [7]) (by kernel_rfl) (by decide) ?_
     refine AllReadyH.cons rfl (fun K5 hK5 => ?_) AllReadyH.nil
     have bq0 := bq8.c0
     have bq1 := bq8.c1
     have bq2 := bq8.c2
     have bq3 := bq8.c3
     have bqz := bq8.frozen
     have bql := bq8.lt
     go_simp
     clear bq0 bq1 bq2 bq3 bqz bql bq8
     generalize hwz : World.setCell _ _ _ = wz_
     obtain rfl : wz_ = setL w8 gQ 1 [.slice A8 n8 c8] := hwz.symm
     clear hwz
     generalize setL w8 _ 1 _ = wS at *
     refine hK5.out _ _ trivial (fun _ => ?_)
     refine ⟨by kernel_rfl, ?_⟩
     have bq0 := hq.q.c0
     have bq1 := hq.q.c1
     have bq2 := hq.q.c2
     have bq3 := hq.q.c3
     have bqz := hq.q.frozen
     have bql := hq.q.lt
     have br0 := hq.r.c0
     have br1 := hq.r.c1
     have br2 := hq.r.c2
     have br3 := hq.r.c3
     have brz := hq.r.frozen
     have brl := hq.r.lt
     go_wp2_with fail
     clear br0 br1 br2 br3 brz brl
     clear bq0 bq1 bq2 bq3 bqz bql
     generalize hwz : World.setCell (World.setCell (World.setCell (World.setCell _ _ _) _ _) _ _) _ _ = wz_
     obtain rfl : wz_ = setL wS (w.heap.size) 0 [.int .i64 16, .slice A8 n8 c8, .slice A0 n0 c0, .slice A1 n1 c1] := hwz.symm
     clear hwz
     have o0 := hq.ot.box hq.r (by decide) 0 [.int .i64 16, .slice A8 n8 c8, .slice A0 n0 c0, .slice A1 n1 c1]
     have o1 := hq.os.box hq.r (by decide) 0 [.int .i64 16, .slice A8 n8 c8, .slice A0 n0 c0, .slice A1 n1 c1]
     have o2 := hq.ow.box hq.r (by decide) 0 [.int .i64 16, .slice A8 n8 c8, .slice A0 n0 c0, .slice A1 n1 c1]
     have gS := setL_grown [.int .i64 16, .slice A8 n8 c8, .slice A0 n0 c0, .slice A1 n1 c1] wS (w.heap.size) 0
     have hG := grown_new hq.G gS (fun q e => by injection e with e; omega)
     have hc := hq.c.other gS (by omega)
     have bR := hq.r.setAll [.int .i64 16, .slice A8 n8 c8, .slice A0 n0 c0, .slice A1 n1 c1] rfl
     have zS : (setL wS (w.heap.size) 0 [.int .i64 16, .slice A8 n8 c8, .slice A0 n0 c0, .slice A1 n1 c1]).heap.size = wS.heap.size := setL_size _ _ _ _
     generalize setL wS _ 0 _ = wE at *
     have u0_ := bR.c0
     have u1_ := bR.c1
     have u2_ := bR.c2
     have u3_ := bR.c3
     have F4 := (show (st ++ [yy]).length ≤ 5 by simp; omega)
     have F5 := hF2
     have F9 := hF3
     have O0 := o0.mono (Nat.le_refl _) (Nat.le_of_eq zS.symm)
     have O1 := o1.mono (Nat.le_refl _) (Nat.le_of_eq zS.symm)
     have O2 := o2.mono (Nat.le_refl _) (Nat.le_of_eq zS.symm)
     have hc2 : Cur wE g cv (k + 700) := hc.mono (by omega)
     refine bodyPost_ret (by simp only [results, Tryz.results48]; simp [go_sem, u0_, u1_, u2_, u3_]; rfl) rfl ?_
     first | exact ⟨_, _, _, _, _, _, _, rfl, F4, F5, F9, O0, O1, O2, hG, hc2⟩ | exact ⟨_, _, _, _, rfl, _, F4, _, F5, _, F9, O0, O1, O2, hG, hc2⟩
    ·go_simp
     refine (pick_any g _ _ l 8 _ hq.h (DF.hle HF hq) hg hq.c (by omega) (by omega)).mono ?_; rintro q_ wy ⟨yy, rfl, yy_0, yy_1, gg, kk⟩
     replace hq := hq.pick HF gg kk
     clear gg kk
     refine hK1b.out _ _ trivial (fun _ => ?_)
     refine wpAnyH_ready (rs := [1, 4]) (by kernel_rfl) (by decide) ?_
     refine AllReadyH.cons rfl (fun K6a hK6a => ?_) (AllReadyH.cons rfl (fun K6b hK6b => ?_) AllReadyH.nil)
     ·have bq0 := hq.q.c0
      have bq1 := hq.q.c1
      have bq2 := hq.q.c2
      have bq3 := hq.q.c3
      have bqz := hq.q.frozen
      have bql := hq.q.lt
      go_simp
      clear bq0 bq1 bq2 bq3 bqz bql
      refine hK6a.out _ _ trivial (fun _ => ?_)
      refine wpAnyH_ready (rs := [4]) (by kernel_rfl) (by decide) ?_
      refine AllReadyH.cons rfl (fun K7 hK7 => ?_) AllReadyH.nil
      go_simp
      have bb := (Below.refl wy.heap.size wy).alloc (Nat.le_refl _) (.cells #[.int .i64 yy] 3)
      have bN := Box.new wy #[.int .i64 yy] 3 rfl
      replace hq := hq.below HF bb
      clear bb
      generalize wy.alloc _ = wa at *
      generalize wy.heap.size = gN at *
      refine hK7.out _ _ trivial (fun _ => ?_)
      refine wpAnyH_ready (rs := [5]) (by kernel_rfl) (by decide) ?_
      refine AllReadyH.cons rfl (fun K8 hK8 => ?_) AllReadyH.nil
      refine Nm.appK_ow rfl _ _ rfl rfl hq.ot gN 1 yy rfl (fun j u hu => by rcases j with _ | j <;> simp [Nm.cells] at hu <;> subst hu <;> exact bN.c0) (by omega) hq.size (Nat.le_refl _) ?_
      intro v8 w8 row8 o8 g8 r8
      obtain ⟨A8, n8, c8, rfl, _, _, _⟩ := o8.rd.form
      have bq8 := hq.app_box g8 r8
      replace hq := hq.app HF g8 r8 o8
      refine hK8.out _ _ trivial (fun _ => ?_)
      have hHeld : (fun (_ : World) => True) w8 := trivial
      refine wpAnyH_take (i := 6) (v := .pointer (some ⟨gQ, 1, none⟩)) rfl (by kernel_rfl) (by kernel_rfl) (by kernel_rfl) (fun _ _ _ h => h) (Or.inl ⟨by rfl, by intro w hSw; go_simp⟩) hHeld ?_
      clear hHeld
      refine wpAnyH_ready (rs := [7]) (by kernel_rfl) (by decide) ?_
      refine AllReadyH.cons rfl (fun K9 hK9 => ?_) AllReadyH.nil
      have bq0 := bq8.c0
      have bq1 := bq8.c1
      have bq2 := bq8.c2
      have bq3 := bq8.c3
      have bqz := bq8.frozen
      have bql := bq8.lt
      go_simp
      clear bq0 bq1 bq2 bq3 bqz bql bq8
      generalize hwz : World.setCell _ _ _ = wz_
      obtain rfl : wz_ = setL w8 gQ 1 [.slice A8 n8 c8] := hwz.symm
      clear hwz
      generalize setL w8 _ 1 _ = wS at *
      refine hK9.out _ _ trivial (fun _ => ?_)
      refine ⟨by kernel_rfl, ?_⟩
      have bq0 := hq.q.c0
      have bq1 := hq.q.c1
      have bq2 := hq.q.c2
      have bq3 := hq.q.c3
      have bqz := hq.q.frozen
      have bql := hq.q.lt
      have br0 := hq.r.c0
      have br1 := hq.r.c1
      have br2 := hq.r.c2
      have br3 := hq.r.c3
      have brz := hq.r.frozen
      have brl := hq.r.lt
      go_wp2_with fail
      clear br0 br1 br2 br3 brz brl
      clear bq0 bq1 bq2 bq3 bqz bql
      generalize hwz : World.setCell (World.setCell (World.setCell (World.setCell _ _ _) _ _) _ _) _ _ = wz_
      obtain rfl : wz_ = setL wS (w.heap.size) 0 [.int .i64 16, .slice A8 n8 c8, .slice A0 n0 c0, .slice A1 n1 c1] := hwz.symm
      clear hwz
      have o0 := hq.ot.box hq.r (by decide) 0 [.int .i64 16, .slice A8 n8 c8, .slice A0 n0 c0, .slice A1 n1 c1]
      have o1 := hq.os.box hq.r (by decide) 0 [.int .i64 16, .slice A8 n8 c8, .slice A0 n0 c0, .slice A1 n1 c1]
      have o2 := hq.ow.box hq.r (by decide) 0 [.int .i64 16, .slice A8 n8 c8, .slice A0 n0 c0, .slice A1 n1 c1]
      have gS := setL_grown [.int .i64 16, .slice A8 n8 c8, .slice A0 n0 c0, .slice A1 n1 c1] wS (w.heap.size) 0
      have hG := grown_new hq.G gS (fun q e => by injection e with e; omega)
      have hc := hq.c.other gS (by omega)
      have bR := hq.r.setAll [.int .i64 16, .slice A8 n8 c8, .slice A0 n0 c0, .slice A1 n1 c1] rfl
      have zS : (setL wS (w.heap.size) 0 [.int .i64 16, .slice A8 n8 c8, .slice A0 n0 c0, .slice A1 n1 c1]).heap.size = wS.heap.size := setL_size _ _ _ _
      generalize setL wS _ 0 _ = wE at *
      have u0_ := bR.c0
      have u1_ := bR.c1
      have u2_ := bR.c2
      have u3_ := bR.c3
      have F4 := (show (st ++ [yy]).length ≤ 5 by simp; omega)
      have F5 := hF2
      have F9 := hF3
      have O0 := o0.mono (Nat.le_refl _) (Nat.le_of_eq zS.symm)
      have O1 := o1.mono (Nat.le_refl _) (Nat.le_of_eq zS.symm)
      have O2 := o2.mono (Nat.le_refl _) (Nat.le_of_eq zS.symm)
      have hc2 : Cur wE g cv (k + 700) := hc.mono (by omega)
      refine bodyPost_ret (by simp only [results, Tryz.results48]; simp [go_sem, u0_, u1_, u2_, u3_]; rfl) rfl ?_
      first | exact ⟨_, _, _, _, _, _, _, rfl, F4, F5, F9, O0, O1, O2, hG, hc2⟩ | exact ⟨_, _, _, _, rfl, _, F4, _, F5, _, F9, O0, O1, O2, hG, hc2⟩
     ·go_simp
      have bb := (Below.refl wy.heap.size wy).alloc (Nat.le_refl _) (.cells #[.int .i64 yy] 3)
      have bN := Box.new wy #[.int .i64 yy] 3 rfl
      replace hq := hq.below HF bb
      clear bb
      generalize wy.alloc _ = wa at *
      generalize wy.heap.size = gN at *
      refine hK6b.out _ _ trivial (fun _ => ?_)
      refine wpAnyH_ready (rs := [1]) (by kernel_rfl) (by decide) ?_
      refine AllReadyH.cons rfl (fun K10 hK10 => ?_) AllReadyH.nil
      have bq0 := hq.q.c0
      have bq1 := hq.q.c1
      have bq2 := hq.q.c2
      have bq3 := hq.q.c3
      have bqz := hq.q.frozen
      have bql := hq.q.lt
      go_simp
      clear bq0 bq1 bq2 bq3 bqz bql
      refine hK10.out _ _ trivial (fun _ => ?_)
      refine wpAnyH_ready (rs := [5]) (by kernel_rfl) (by decide) ?_
      refine AllReadyH.cons rfl (fun K11 hK11 => ?_) AllReadyH.nil
      refine Nm.appK_ow rfl _ _ rfl rfl hq.ot gN 1 yy rfl (fun j u hu => by rcases j with _ | j <;> simp [Nm.cells] at hu <;> subst hu <;> exact bN.c0) (by omega) hq.size (Nat.le_refl _) ?_
      intro v8 w8 row8 o8 g8 r8
      obtain ⟨A8, n8, c8, rfl, _, _, _⟩ := o8.rd.form
      have bq8 := hq.app_box g8 r8
      replace hq := hq.app HF g8 r8 o8
      refine hK11.out _ _ trivial (fun _ => ?_)
      have hHeld : (fun (_ : World) => True) w8 := trivial
      refine wpAnyH_take (i := 6) (v := .pointer (some ⟨gQ, 1, none⟩)) rfl (by kernel_rfl) (by kernel_rfl) (by kernel_rfl) (fun _ _ _ h => h) (Or.inl ⟨by rfl, by intro w hSw; go_simp⟩) hHeld ?_
      clear hHeld
      refine wpAnyH_ready (rs := [7]) (by kernel_rfl) (by decide) ?_
      refine AllReadyH.cons rfl (fun K12 hK12 => ?_) AllReadyH.nil
      have bq0 := bq8.c0
      have bq1 := bq8.c1
      have bq2 := bq8.c2
      have bq3 := bq8.c3
      have bqz := bq8.frozen
      have bql := bq8.lt
      go_simp
      clear bq0 bq1 bq2 bq3 bqz bql bq8
      generalize hwz : World.setCell _ _ _ = wz_
      obtain rfl : wz_ = setL w8 gQ 1 [.slice A8 n8 c8] := hwz.symm
      clear hwz
      generalize setL w8 _ 1 _ = wS at *
      refine hK12.out _ _ trivial (fun _ => ?_)
      refine ⟨by kernel_rfl, ?_⟩
      have bq0 := hq.q.c0
      have bq1 := hq.q.c1
      have bq2 := hq.q.c2
      have bq3 := hq.q.c3
      have bqz := hq.q.frozen
      have bql := hq.q.lt
      have br0 := hq.r.c0
      have br1 := hq.r.c1
      have br2 := hq.r.c2
      have br3 := hq.r.c3
      have brz := hq.r.frozen
      have brl := hq.r.lt
      go_wp2_with fail
      clear br0 br1 br2 br3 brz brl
      clear bq0 bq1 bq2 bq3 bqz bql
      generalize hwz : World.setCell (World.setCell (World.setCell (World.setCell _ _ _) _ _) _ _) _ _ = wz_
      obtain rfl : wz_ = setL wS (w.heap.size) 0 [.int .i64 16, .slice A8 n8 c8, .slice A0 n0 c0, .slice A1 n1 c1] := hwz.symm
      clear hwz
      have o0 := hq.ot.box hq.r (by decide) 0 [.int .i64 16, .slice A8 n8 c8, .slice A0 n0 c0, .slice A1 n1 c1]
      have o1 := hq.os.box hq.r (by decide) 0 [.int .i64 16, .slice A8 n8 c8, .slice A0 n0 c0, .slice A1 n1 c1]
      have o2 := hq.ow.box hq.r (by decide) 0 [.int .i64 16, .slice A8 n8 c8, .slice A0 n0 c0, .slice A1 n1 c1]
      have gS := setL_grown [.int .i64 16, .slice A8 n8 c8, .slice A0 n0 c0, .slice A1 n1 c1] wS (w.heap.size) 0
      have hG := grown_new hq.G gS (fun q e => by injection e with e; omega)
      have hc := hq.c.other gS (by omega)
      have bR := hq.r.setAll [.int .i64 16, .slice A8 n8 c8, .slice A0 n0 c0, .slice A1 n1 c1] rfl
      have zS : (setL wS (w.heap.size) 0 [.int .i64 16, .slice A8 n8 c8, .slice A0 n0 c0, .slice A1 n1 c1]).heap.size = wS.heap.size := setL_size _ _ _ _
      generalize setL wS _ 0 _ = wE at *
      have u0_ := bR.c0
      have u1_ := bR.c1
      have u2_ := bR.c2
      have u3_ := bR.c3
      have F4 := (show (st ++ [yy]).length ≤ 5 by simp; omega)
      have F5 := hF2
      have F9 := hF3
      have O0 := o0.mono (Nat.le_refl _) (Nat.le_of_eq zS.symm)
      have O1 := o1.mono (Nat.le_refl _) (Nat.le_of_eq zS.symm)
      have O2 := o2.mono (Nat.le_refl _) (Nat.le_of_eq zS.symm)
      have hc2 : Cur wE g cv (k + 700) := hc.mono (by omega)
      refine bodyPost_ret (by simp only [results, Tryz.results48]; simp [go_sem, u0_, u1_, u2_, u3_]; rfl) rfl ?_
      first | exact ⟨_, _, _, _, _, _, _, rfl, F4, F5, F9, O0, O1, O2, hG, hc2⟩ | exact ⟨_, _, _, _, rfl, _, F4, _, F5, _, F9, O0, O1, O2, hG, hc2⟩
   ·subst h2
    have bq0 := hq.q.c0
    have bq1 := hq.q.c1
    have bq2 := hq.q.c2
    have bq3 := hq.q.c3
    have bqz := hq.q.frozen
    have bql := hq.q.lt
    go_wp2_with fail
    clear bq0 bq1 bq2 bq3 bqz bql
    have zb := hq.size
    refine (queue_any g _ _ l _ hq.h (DF.hle HF hq) hg hq.c (by omega)).mono ?_; rintro q_ wo ⟨v5, v6, l5, l6, rfl, _, n5_, n6_, o5, o6, gg, kk⟩
    obtain ⟨A5, n5, c5, rfl, _, _, _⟩ := o5.rd.form
    obtain ⟨A6, n6, c6, rfl, _, _, _⟩ := o6.rd.form
    replace hq := hq.pick HF gg kk
    clear gg kk
    have bq0 := hq.q.c0
    have bq1 := hq.q.c1
    have bq2 := hq.q.c2
    have bq3 := hq.q.c3
    have bqz := hq.q.frozen
    have bql := hq.q.lt
    have br0 := hq.r.c0
    have br1 := hq.r.c1
    have br2 := hq.r.c2
    have br3 := hq.r.c3
    have brz := hq.r.frozen
    have brl := hq.r.lt
    go_upto_region 24 with fail
    clear br0 br1 br2 br3 brz brl
    clear bq0 bq1 bq2 bq3 bqz bql
    generalize hwz : World.setCell (World.setCell _ _ _) _ _ = wz_
    obtain rfl : wz_ = setL wo gQ 2 [.slice A5 n5 c5, .slice A6 n6 c6] := hwz.symm
    clear hwz
    replace hq := hq.store23 HF (o5.mono zb (Nat.le_refl _)) (o6.mono zb (Nat.le_refl _))
    generalize setL wo _ 2 _ = wS at *
    have bq0 := hq.q.c0
    have bq1 := hq.q.c1
    have bq2 := hq.q.c2
    have bq3 := hq.q.c3
    have bqz := hq.q.frozen
    have bql := hq.q.lt
    have br0 := hq.r.c0
    have br1 := hq.r.c1
    have br2 := hq.r.c2
    have br3 := hq.r.c3
    have brz := hq.r.frozen
    have brl := hq.r.lt
    go_wp2_with fail
    clear br0 br1 br2 br3 brz brl
    clear bq0 bq1 bq2 bq3 bqz bql
    generalize hwz : World.setCell (World.setCell (World.setCell (World.setCell _ _ _) _ _) _ _) _ _ = wz_
    obtain rfl : wz_ = setL wS (w.heap.size) 0 [.int .i64 16, .slice At nt ct, .slice A5 n5 c5, .slice A6 n6 c6] := hwz.symm
    clear hwz
    have o0 := hq.ot.box hq.r (by decide) 0 [.int .i64 16, .slice At nt ct, .slice A5 n5 c5, .slice A6 n6 c6]
    have o1 := hq.os.box hq.r (by decide) 0 [.int .i64 16, .slice At nt ct, .slice A5 n5 c5, .slice A6 n6 c6]
    have o2 := hq.ow.box hq.r (by decide) 0 [.int .i64 16, .slice At nt ct, .slice A5 n5 c5, .slice A6 n6 c6]
    have gS := setL_grown [.int .i64 16, .slice At nt ct, .slice A5 n5 c5, .slice A6 n6 c6] wS (w.heap.size) 0
    have hG := grown_new hq.G gS (fun q e => by injection e with e; omega)
    have hc := hq.c.other gS (by omega)
    have bR := hq.r.setAll [.int .i64 16, .slice At nt ct, .slice A5 n5 c5, .slice A6 n6 c6] rfl
    have zS : (setL wS (w.heap.size) 0 [.int .i64 16, .slice At nt ct, .slice A5 n5 c5, .slice A6 n6 c6]).heap.size = wS.heap.size := setL_size _ _ _ _
    generalize setL wS _ 0 _ = wE at *
    have u0_ := bR.c0
    have u1_ := bR.c1
    have u2_ := bR.c2
    have u3_ := bR.c3
    have F4 : st.length ≤ 5 := by omega
    have F5 := n5_
    have F9 := n6_
    have O0 := o0.mono (Nat.le_refl _) (Nat.le_of_eq zS.symm)
    have O1 := o1.mono (Nat.le_refl _) (Nat.le_of_eq zS.symm)
    have O2 := o2.mono (Nat.le_refl _) (Nat.le_of_eq zS.symm)
    have hc2 : Cur wE g cv (k + 700) := hc.mono (by omega)
    refine bodyPost_ret (by simp only [results, Tryz.results48]; simp [go_sem, u0_, u1_, u2_, u3_]; rfl) rfl ?_
    first | exact ⟨_, _, _, _, _, _, _, rfl, F4, F5, F9, O0, O1, O2, hG, hc2⟩ | exact ⟨_, _, _, _, rfl, _, F4, _, F5, _, F9, O0, O1, O2, hG, hc2⟩
  ·have bq0 := hq.q.c0
   have bq1 := hq.q.c1
   have bq2 := hq.q.c2
   have bq3 := hq.q.c3
   have bqz := hq.q.frozen
   have bql := hq.q.lt
   go_wp2_with fail
   clear bq0 bq1 bq2 bq3 bqz bql
   have rl := lit_ints wp_z0 [0, 4, 8, 15] #[.int .i64 0, .int .i64 4, .int .i64 8, .int .i64 15] 4 rfl rfl (by decide)
   have zl : (wp_z0.alloc (.cells #[.int .i64 0, .int .i64 4, .int .i64 8, .int .i64 15] 3)).heap.size = wp_z0.heap.size + 1 := by simp
   have zgl := hq.c.lt
   replace hq := hq.below HF ((Below.refl _ _).alloc (Nat.le_refl _) (.cells #[.int .i64 0, .int .i64 4, .int .i64 8, .int .i64 15] 3))
   generalize wp_z0.alloc _ = wl_m8 at *
   generalize wp_z0.heap.size = gl_m8 at *
   refine (among_any g _ _ _ l [0, 4, 8, 15] _ hq.h (DF.hle HF hq) hg rl (by omega) (by omega) (by decide) (by decide) hq.c (by omega)).mono ?_; rintro q_ wp_m8 ⟨m8, rfl, gg, kk⟩
   replace hq := hq.pick HF gg kk
   clear gg kk rl zl zgl
   have bq0 := hq.q.c0
   have bq1 := hq.q.c1
   have bq2 := hq.q.c2
   have bq3 := hq.q.c3
   have bqz := hq.q.frozen
   have bql := hq.q.lt
   have br0 := hq.r.c0
   have br1 := hq.r.c1
   have br2 := hq.r.c2
   have br3 := hq.r.c3
   have brz := hq.r.frozen
   have brl := hq.r.lt
   go_upto_region 17 with fail
   clear br0 br1 br2 br3 brz brl
   clear bq0 bq1 bq2 bq3 bqz bql
   generalize hwz : World.setCell _ _ _ = wz_
   obtain rfl : wz_ = setL wp_m8 gQ 0 [.int .i64 m8] := hwz.symm
   clear hwz
   replace hq := hq.store0 HF m8
   generalize setL wp_m8 _ 0 _ = wM at *
   have bq0 := hq.q.c0
   have bq1 := hq.q.c1
   have bq2 := hq.q.c2
   have bq3 := hq.q.c3
   have bqz := hq.q.frozen
   have bql := hq.q.lt
   go_wp2_with fail
   clear bq0 bq1 bq2 bq3 bqz bql
   refine (pick_any g _ _ l 24 _ hq.h (DF.hle HF hq) hg hq.c (by omega) (by omega)).mono ?_; rintro q_ wp_z1 ⟨z1, rfl, z1_0, z1_1, gg, kk⟩
   replace hq := hq.pick HF gg kk
   clear gg kk
   by_cases h0 : z1 = 0
   rotate_left
   by_cases h1 : z1 = 1
   rotate_left
   by_cases h2 : z1 = 2
   rotate_left
   ·have h0b : (z1 == 0) = false := by rw [beq_eq_false_iff_ne]; exact h0
    have h1b : (z1 == 1) = false := by rw [beq_eq_false_iff_ne]; exact h1
    have h2b : (z1 == 2) = false := by rw [beq_eq_false_iff_ne]; exact h2
    have bq0 := hq.q.c0
    have bq1 := hq.q.c1
    have bq2 := hq.q.c2
    have bq3 := hq.q.c3
    have bqz := hq.q.frozen
    have bql := hq.q.lt
    have br0 := hq.r.c0
    have br1 := hq.r.c1
    have br2 := hq.r.c2
    have br3 := hq.r.c3
    have brz := hq.r.frozen
    have brl := hq.r.lt
    go_wp2_with fail
    clear br0 br1 br2 br3 brz brl
    clear bq0 bq1 bq2 bq3 bqz bql
    generalize hwz : World.setCell (World.setCell (World.setCell (World.setCell _ _ _) _ _) _ _) _ _ = wz_
    obtain rfl : wz_ = setL wp_z1 (w.heap.size) 0 [.int .i64 m8, .slice At nt ct, .slice A0 n0 c0, .slice A1 n1 c1] := hwz.symm
    clear hwz
    have o0 := hq.ot.box hq.r (by decide) 0 [.int .i64 m8, .slice At nt ct, .slice A0 n0 c0, .slice A1 n1 c1]
    have o1 := hq.os.box hq.r (by decide) 0 [.int .i64 m8, .slice At nt ct, .slice A0 n0 c0, .slice A1 n1 c1]
    have o2 := hq.ow.box hq.r (by decide) 0 [.int .i64 m8, .slice At nt ct, .slice A0 n0 c0, .slice A1 n1 c1]
    have gS := setL_grown [.int .i64 m8, .slice At nt ct, .slice A0 n0 c0, .slice A1 n1 c1] wp_z1 (w.heap.size) 0
    have hG := grown_new hq.G gS (fun q e => by injection e with e; omega)
    have hc := hq.c.other gS (by omega)
    have bR := hq.r.setAll [.int .i64 m8, .slice At nt ct, .slice A0 n0 c0, .slice A1 n1 c1] rfl
    have zS : (setL wp_z1 (w.heap.size) 0 [.int .i64 m8, .slice At nt ct, .slice A0 n0 c0, .slice A1 n1 c1]).heap.size = wp_z1.heap.size := setL_size _ _ _ _
    generalize setL wp_z1 _ 0 _ = wE at *
    have u0_ := bR.c0
    have u1_ := bR.c1
    have u2_ := bR.c2
    have u3_ := bR.c3
    have F4 : st.length ≤ 5 := by omega
    have F5 := hF2
    have F9 := hF3
    have O0 := o0.mono (Nat.le_refl _) (Nat.le_of_eq zS.symm)
    have O1 := o1.mono (Nat.le_refl _) (Nat.le_of_eq zS.symm)
    have O2 := o2.mono (Nat.le_refl _) (Nat.le_of_eq zS.symm)
    have hc2 : Cur wE g cv (k + 700) := hc.mono (by omega)
    refine bodyPost_ret (by simp only [results, Tryz.results48]; simp [go_sem, u0_, u1_, u2_, u3_]; rfl) rfl ?_
    first | exact ⟨_, _, _, _, _, _, _, rfl, F4, F5, F9, O0, O1, O2, hG, hc2⟩ | exact ⟨_, _, _, _, rfl, _, F4, _, F5, _, F9, O0, O1, O2, hG, hc2⟩
   ·subst h0
    have bq0 := hq.q.c0
    have bq1 := hq.q.c1
    have bq2 := hq.q.c2
    have bq3 := hq.q.c3
    have bqz := hq.q.frozen
    have bql := hq.q.lt
    go_wp2_with fail
    clear bq0 bq1 bq2 bq3 bqz bql
    have rl := lit_ints wp_z1 [-1, 17] #[.int .i64 (-1), .int .i64 17] 2 rfl rfl (by decide)
    have zl : (wp_z1.alloc (.cells #[.int .i64 (-1), .int .i64 17] 3)).heap.size = wp_z1.heap.size + 1 := by simp
    have zgl := hq.c.lt
    replace hq := hq.below HF ((Below.refl _ _).alloc (Nat.le_refl _) (.cells #[.int .i64 (-1), .int .i64 17] 3))
    generalize wp_z1.alloc _ = wl_m9 at *
    generalize wp_z1.heap.size = gl_m9 at *
    refine (among_any g _ _ _ l [-1, 17] _ hq.h (DF.hle HF hq) hg rl (by omega) (by omega) (by decide) (by decide) hq.c (by omega)).mono ?_; rintro q_ wp_m9 ⟨m9, rfl, gg, kk⟩
    replace hq := hq.pick HF gg kk
    clear gg kk rl zl zgl
    have bq0 := hq.q.c0
    have bq1 := hq.q.c1
    have bq2 := hq.q.c2
    have bq3 := hq.q.c3
    have bqz := hq.q.frozen
    have bql := hq.q.lt
    have br0 := hq.r.c0
    have br1 := hq.r.c1
    have br2 := hq.r.c2
    have br3 := hq.r.c3
    have brz := hq.r.frozen
    have brl := hq.r.lt
    go_upto_region 24 with fail
    clear br0 br1 br2 br3 brz brl
    clear bq0 bq1 bq2 bq3 bqz bql
    generalize hwz : World.setCell _ _ _ = wz_
    obtain rfl : wz_ = setL wp_m9 gQ 0 [.int .i64 m9] := hwz.symm
    clear hwz
    replace hq := hq.store0 HF m9
    generalize setL wp_m9 _ 0 _ = wS at *
    have bq0 := hq.q.c0
    have bq1 := hq.q.c1
    have bq2 := hq.q.c2
    have bq3 := hq.q.c3
    have bqz := hq.q.frozen
    have bql := hq.q.lt
    have br0 := hq.r.c0
    have br1 := hq.r.c1
    have br2 := hq.r.c2
    have br3 := hq.r.c3
    have brz := hq.r.frozen
    have brl := hq.r.lt
    go_wp2_with fail
    clear br0 br1 br2 br3 brz brl
    clear bq0 bq1 bq2 bq3 bqz bql
    generalize hwz : World.setCell (World.setCell (World.setCell (World.setCell _ _ _) _ _) _ _) _ _ = wz_
    obtain rfl : wz_ = setL wS (w.heap.size) 0 [.int .i64 m9, .slice At nt ct, .slice A0 n0 c0, .slice A1 n1 c1] := hwz.symm
    clear hwz
    have o0 := hq.ot.box hq.r (by decide) 0 [.int .i64 m9, .slice At nt ct, .slice A0 n0 c0, .slice A1 n1 c1]
    have o1 := hq.os.box hq.r (by decide) 0 [.int .i64 m9, .slice At nt ct, .slice A0 n0 c0, .slice A1 n1 c1]
    have o2 := hq.ow.box hq.r (by decide) 0 [.int .i64 m9, .slice At nt ct, .slice A0 n0 c0, .slice A1 n1 c1]
    have gS := setL_grown [.int .i64 m9, .slice At nt ct, .slice A0 n0 c0, .slice A1 n1 c1] wS (w.heap.size) 0
    have hG := grown_new hq.G gS (fun q e => by injection e with e; omega)
    have hc := hq.c.other gS (by omega)
    have bR := hq.r.setAll [.int .i64 m9, .slice At nt ct, .slice A0 n0 c0, .slice A1 n1 c1] rfl
    have zS : (setL wS (w.heap.size) 0 [.int .i64 m9, .slice At nt ct, .slice A0 n0 c0, .slice A1 n1 c1]).heap.size = wS.heap.size := setL_size _ _ _ _
    generalize setL wS _ 0 _ = wE at *
    have u0_ := bR.c0
    have u1_ := bR.c1
    have u2_ := bR.c2
    have u3_ := bR.c3
    have F4 : st.length ≤ 5 := by omega
    have F5 := hF2
    have F9 := hF3
    have O0 := o0.mono (Nat.le_refl _) (Nat.le_of_eq zS.symm)
    have O1 := o1.mono (Nat.le_refl _) (Nat.le_of_eq zS.symm)
    have O2 := o2.mono (Nat.le_refl _) (Nat.le_of_eq zS.symm)
    have hc2 : Cur wE g cv (k + 700) := hc.mono (by omega)
    refine bodyPost_ret (by simp only [results, Tryz.results48]; simp [go_sem, u0_, u1_, u2_, u3_]; rfl) rfl ?_
    first | exact ⟨_, _, _, _, _, _, _, rfl, F4, F5, F9, O0, O1, O2, hG, hc2⟩ | exact ⟨_, _, _, _, rfl, _, F4, _, F5, _, F9, O0, O1, O2, hG, hc2⟩
   ·subst h1
    have hnt : nt ≤ 4 := by have := hq.ot.rd.n_eq.1; omega
    have bq0 := hq.q.c0
    have bq1 := hq.q.c1
    have bq2 := hq.q.c2
    have bq3 := hq.q.c3
    have bqz := hq.q.frozen
    have bql := hq.q.lt
    go_upto_region 21 with fail
    clear bq0 bq1 bq2 bq3 bqz bql
    have hkq := hq.c
    refine wp_region_held_drew (S := fun _ => True) (by kernel_rfl) trivial (fun hHeld => ?_)
    refine wpAnyH_take (i := 0) (v := .pointer (some ⟨gQ, 1, none⟩)) rfl (by kernel_rfl) (by kernel_rfl) (by kernel_rfl) (fun _ _ _ h => h) (Or.inl ⟨by rfl, by intro w hSw; go_simp⟩) hHeld ?_
    refine wpAnyH_take (i := 2) (v := .pointer (some ⟨g, 0, none⟩)) rfl (by kernel_rfl) (by kernel_rfl) (by kernel_rfl) (fun _ _ _ h => h) (Or.inl ⟨by rfl, by intro w hSw; go_simp⟩) hHeld ?_
    clear hHeld hkq
    refine held_gen (F := fun W' => DF w g cv l lo hi _ W' gQ m8 (.slice At nt ct) (.slice A0 n0 c0) (.slice A1 n1 c1) st ls lw) (hq.below HF (Below.refl _ _).drew) ?_
    clear hq
    rintro wh hq
    refine wpAnyH_ready (rs := [1, 3]) (by kernel_rfl) (by decide) ?_
    refine AllReadyH.cons rfl (fun K13a hK13a => ?_) (AllReadyH.cons rfl (fun K13b hK13b => ?_) AllReadyH.nil)
    ·have bq0 := hq.q.c0
     have bq1 := hq.q.c1
     have bq2 := hq.q.c2
     have bq3 := hq.q.c3
     have bqz := hq.q.frozen
     have bql := hq.q.lt
     go_simp
     clear bq0 bq1 bq2 bq3 bqz bql
     refine hK13a.out _ _ trivial (fun _ => ?_)
     refine wpAnyH_ready (rs := [3]) (by kernel_rfl) (by decide) ?_
     refine AllReadyH.cons rfl (fun K14 hK14 => ?_) AllReadyH.nil
     go_simp
     refine (pick_any g _ _ l 8 _ hq.h (DF.hle HF hq) hg hq.c (by omega) (by omega)).mono ?_; rintro q_ wy ⟨yy, rfl, yy_0, yy_1, gg, kk⟩
     replace hq := hq.pick HF gg kk
     clear gg kk
     refine hK14.out _ _ trivial (fun _ => ?_)
     refine wpAnyH_ready (rs := [4]) (by kernel_rfl) (by decide) ?_
     refine AllReadyH.cons rfl (fun K15 hK15 => ?_) AllReadyH.nil
     go_simp
     have bb := (Below.refl wy.heap.size wy).alloc (Nat.le_refl _) (.cells #[.int .i64 yy] 3)
     have bN := Box.new wy #[.int .i64 yy] 3 rfl
     replace hq := hq.below HF bb
     clear bb
     generalize wy.alloc _ = wa at *
     generalize wy.heap.size = gN at *
     refine hK15.out _ _ trivial (fun _ => ?_)
     refine wpAnyH_ready (rs := [5]) (by kernel_rfl) (by decide) ?_
     refine AllReadyH.cons rfl (fun K16 hK16 => ?_) AllReadyH.nil
     refine Nm.appK_ow rfl _ _ rfl rfl hq.ot gN 1 yy rfl (fun j u hu => by rcases j with _ | j <;> simp [Nm.cells] at hu <;> subst hu <;> exact bN.c0) (by omega) hq.size (Nat.le_refl _) ?_
     intro v8 w8 row8 o8 g8 r8
     obtain ⟨A8, n8, c8, rfl, _, _, _⟩ := o8.rd.form
     have bq8 := hq.app_box g8 r8
     replace hq := hq.app HF g8 r8 o8
     refine hK16.out _ _ trivial (fun _ => ?_)
     have hHeld : (fun (_ : World) => True) w8 := trivial
     refine wpAnyH_take (i := 6) (v := .pointer (some ⟨gQ, 1, none⟩)) rfl (by kernel_rfl) (by kernel_rfl) (by kernel_rfl) (fun _ _ _ h => h) (Or.inl ⟨by rfl, by intro w hSw; go_simp⟩) hHeld ?_
     clear hHeld
     refine wpAnyH_ready (rs := [7]) (by kernel_rfl) (by decide) ?_
     refine AllReadyH.cons rfl (fun K17 hK17 => ?_) AllReadyH.nil
     have bq0 := bq8.c0
     have bq1 := bq8.c1
     have bq2 := bq8.c2
     have bq3 := bq8.c3
     have bqz := bq8.frozen
     have bql := bq8.lt
     go_simp
     clear bq0 bq1 bq2 bq3 bqz bql bq8
     generalize hwz : World.setCell _ _ _ = wz_
     obtain rfl : wz_ = setL w8 gQ 1 [.slice A8 n8 c8] := hwz.symm
     clear hwz
     generalize setL w8 _ 1 _ = wS at *
     refine hK17.out _ _ trivial (fun _ => ?_)
     refine ⟨by kernel_rfl, ?_⟩
     have bq0 := hq.q.c0
     have bq1 := hq.q.c1
     have bq2 := hq.q.c2
     have bq3 := hq.q.c3
     have bqz := hq.q.frozen
     have bql := hq.q.lt
     have br0 := hq.r.c0
     have br1 := hq.r.c1
     have br2 := hq.r.c2
     have br3 := hq.r.c3
     have brz := hq.r.frozen
     have brl := hq.r.lt
     go_wp2_with fail
     clear br0 br1 br2 br3 brz brl
     clear bq0 bq1 bq2 bq3 bqz bql
     generalize hwz : World.setCell (World.setCell (World.setCell (World.setCell _ _ _) _ _) _ _) _ _ = wz_
     obtain rfl : wz_ = setL wS (w.heap.size) 0 [.int .i64 m8, .slice A8 n8 c8, .slice A0 n0 c0, .slice A1 n1 c1] := hwz.symm
     clear hwz
     have o0 := hq.ot.box hq.r (by decide) 0 [.int .i64 m8, .slice A8 n8 c8, .slice A0 n0 c0, .slice A1 n1 c1]
     have o1 := hq.os.box hq.r (by decide) 0 [.int .i64 m8, .slice A8 n8 c8, .slice A0 n0 c0, .slice A1 n1 c1]
     have o2 := hq.ow.box hq.r (by decide) 0 [.int .i64 m8, .slice A8 n8 c8, .slice A0 n0 c0, .slice A1 n1 c1]
     have gS := setL_grown [.int .i64 m8, .slice A8 n8 c8, .slice A0 n0 c0, .slice A1 n1 c1] wS (w.heap.size) 0
     have hG := grown_new hq.G gS (fun q e => by injection e with e; omega)
     have hc := hq.c.other gS (by omega)
     have bR := hq.r.setAll [.int .i64 m8, .slice A8 n8 c8, .slice A0 n0 c0, .slice A1 n1 c1] rfl
     have zS : (setL wS (w.heap.size) 0 [.int .i64 m8, .slice A8 n8 c8, .slice A0 n0 c0, .slice A1 n1 c1]).heap.size = wS.heap.size := setL_size _ _ _ _
     generalize setL wS _ 0 _ = wE at *
     have u0_ := bR.c0
     have u1_ := bR.c1
     have u2_ := bR.c2
     have u3_ := bR.c3
     have F4 := (show (st ++ [yy]).length ≤ 5 by simp; omega)
     have F5 := hF2
     have F9 := hF3
     have O0 := o0.mono (Nat.le_refl _) (Nat.le_of_eq zS.symm)
     have O1 := o1.mono (Nat.le_refl _) (Nat.le_of_eq zS.symm)
     have O2 := o2.mono (Nat.le_refl _) (Nat.le_of_eq zS.symm)
     have hc2 : Cur wE g cv (k + 700) := hc.mono (by omega)
     refine bodyPost_ret (by simp only [results, Tryz.results48]; simp [go_sem, u0_, u1_, u2_, u3_]; rfl) rfl ?_
     first | exact ⟨_, _, _, _, _, _, _, rfl, F4, F5, F9, O0, O1, O2, hG, hc2⟩ | exact ⟨_, _, _, _, rfl, _, F4, _, F5, _, F9, O0, O1, O2, hG, hc2⟩
    ·go_simp
     refine (pick_any g _ _ l 8 _ hq.h (DF.hle HF hq) hg hq.c (by omega) (by omega)).mono ?_; rintro q_ wy ⟨yy, rfl, yy_0, yy_1, gg, kk⟩
     replace hq := hq.pick HF gg kk
     clear gg kk
     refine hK13b.out _ _ trivial (fun _ => ?_)
     refine wpAnyH_ready (rs := [1, 4]) (by kernel_rfl) (by decide) ?_
     refine AllReadyH.cons rfl (fun K18a hK18a => ?_) (AllReadyH.cons rfl (fun K18b hK18b => ?_) AllReadyH.nil)
     ·have bq0 := hq.q.c0
      have bq1 := hq.q.c1
      have bq2 := hq.q.c2
      have bq3 := hq.q.c3
      have bqz := hq.q.frozen
      have bql := hq.q.lt
      go_simp
      clear bq0 bq1 bq2 bq3 bqz bql
      refine hK18a.out _ _ trivial (fun _ => ?_)
      refine wpAnyH_ready (rs := [4]) (by kernel_rfl) (by decide) ?_
      refine AllReadyH.cons rfl (fun K19 hK19 => ?_) AllReadyH.nil
      go_simp
      have bb := (Below.refl wy.heap.size wy).alloc (Nat.le_refl _) (.cells #[.int .i64 yy] 3)
      have bN := Box.new wy #[.int .i64 yy] 3 rfl
      replace hq := hq.below HF bb
      clear bb
      generalize wy.alloc _ = wa at *
      generalize wy.heap.size = gN at *
      refine hK19.out _ _ trivial (fun _ => ?_)
      refine wpAnyH_ready (rs := [5]) (by kernel_rfl) (by decide) ?_
      refine AllReadyH.cons rfl (fun K20 hK20 => ?_) AllReadyH.nil
      refine Nm.appK_ow rfl _ _ rfl rfl hq.ot gN 1 yy rfl (fun j u hu => by rcases j with _ | j <;> simp [Nm.cells] at hu <;> subst hu <;> exact bN.c0) (by omega) hq.size (Nat.le_refl _) ?_
      intro v8 w8 row8 o8 g8 r8
      obtain ⟨A8, n8, c8, rfl, _, _, _⟩ := o8.rd.form
      have bq8 := hq.app_box g8 r8
      replace hq := hq.app HF g8 r8 o8
      refine hK20.out _ _ trivial (fun _ => ?_)
      have hHeld : (fun (_ : World) => True) w8 := trivial
      refine wpAnyH_take (i := 6) (v := .pointer (some ⟨gQ, 1, none⟩)) rfl (by kernel_rfl) (by kernel_rfl) (by kernel_rfl) (fun _ _ _ h => h) (Or.inl ⟨by rfl, by intro w hSw; go_simp⟩) hHeld ?_
      clear hHeld
      refine wpAnyH_ready (rs := [7]) (by kernel_rfl) (by decide) ?_
      refine AllReadyH.cons rfl (fun K21 hK21 => ?_) AllReadyH.nil
      have bq0 := bq8.c0
      have bq1 := bq8.c1
      have bq2 := bq8.c2
      have bq3 := bq8.c3
      have bqz := bq8.frozen
      have bql := bq8.lt
      go_simp
      clear bq0 bq1 bq2 bq3 bqz bql bq8
      generalize hwz : World.setCell _ _ _ = wz_
      obtain rfl : wz_ = setL w8 gQ 1 [.slice A8 n8 c8] := hwz.symm
      clear hwz
      generalize setL w8 _ 1 _ = wS at *
      refine hK21.out _ _ trivial (fun _ => ?_)
      refine ⟨by kernel_rfl, ?_⟩
      have bq0 := hq.q.c0
      have bq1 := hq.q.c1
      have bq2 := hq.q.c2
      have bq3 := hq.q.c3
      have bqz := hq.q.frozen
      have bql := hq.q.lt
      have br0 := hq.r.c0
      have br1 := hq.r.c1
      have br2 := hq.r.c2
      have br3 := hq.r.c3
      have brz := hq.r.frozen
      have brl := hq.r.lt
      go_wp2_with fail
      clear br0 br1 br2 br3 brz brl
      clear bq0 bq1 bq2 bq3 bqz bql
      generalize hwz : World.setCell (World.setCell (World.setCell (World.setCell _ _ _) _ _) _ _) _ _ = wz_
      obtain rfl : wz_ = setL wS (w.heap.size) 0 [.int .i64 m8, .slice A8 n8 c8, .slice A0 n0 c0, .slice A1 n1 c1] := hwz.symm
      clear hwz
      have o0 := hq.ot.box hq.r (by decide) 0 [.int .i64 m8, .slice A8 n8 c8, .slice A0 n0 c0, .slice A1 n1 c1]
      have o1 := hq.os.box hq.r (by decide) 0 [.int .i64 m8, .slice A8 n8 c8, .slice A0 n0 c0, .slice A1 n1 c1]
      have o2 := hq.ow.box hq.r (by decide) 0 [.int .i64 m8, .slice A8 n8 c8, .slice A0 n0 c0, .slice A1 n1 c1]
      have gS := setL_grown [.int .i64 m8, .slice A8 n8 c8, .slice A0 n0 c0, .slice A1 n1 c1] wS (w.heap.size) 0
      have hG := grown_new hq.G gS (fun q e => by injection e with e; omega)
      have hc := hq.c.other gS (by omega)
      have bR := hq.r.setAll [.int .i64 m8, .slice A8 n8 c8, .slice A0 n0 c0, .slice A1 n1 c1] rfl
      have zS : (setL wS (w.heap.size) 0 [.int .i64 m8, .slice A8 n8 c8, .slice A0 n0 c0, .slice A1 n1 c1]).heap.size = wS.heap.size := setL_size _ _ _ _
      generalize setL wS _ 0 _ = wE at *
      have u0_ := bR.c0
      have u1_ := bR.c1
      have u2_ := bR.c2
      have u3_ := bR.c3
      have F4 := (show (st ++ [yy]).length ≤ 5 by simp; omega)
      have F5 := hF2
      have F9 := hF3
      have O0 := o0.mono (Nat.le_refl _) (Nat.le_of_eq zS.symm)
      have O1 := o1.mono (Nat.le_refl _) (Nat.le_of_eq zS.symm)
      have O2 := o2.mono (Nat.le_refl _) (Nat.le_of_eq zS.symm)
      have hc2 : Cur wE g cv (k + 700) := hc.mono (by omega)
      refine bodyPost_ret (by simp only [results, Tryz.results48]; simp [go_sem, u0_, u1_, u2_, u3_]; rfl) rfl ?_
      first | exact ⟨_, _, _, _, _, _, _, rfl, F4, F5, F9, O0, O1, O2, hG, hc2⟩ | exact ⟨_, _, _, _, rfl, _, F4, _, F5, _, F9, O0, O1, O2, hG, hc2⟩
     ·go_simp
      have bb := (Below.refl wy.heap.size wy).alloc (Nat.le_refl _) (.cells #[.int .i64 yy] 3)
      have bN := Box.new wy #[.int .i64 yy] 3 rfl
      replace hq := hq.below HF bb
      clear bb
      generalize wy.alloc _ = wa at *
      generalize wy.heap.size = gN at *
      refine hK18b.out _ _ trivial (fun _ => ?_)
      refine wpAnyH_ready (rs := [1]) (by kernel_rfl) (by decide) ?_
      refine AllReadyH.cons rfl (fun K22 hK22 => ?_) AllReadyH.nil
      have bq0 := hq.q.c0
      have bq1 := hq.q.c1
      have bq2 := hq.q.c2
      have bq3 := hq.q.c3
      have bqz := hq.q.frozen
      have bql := hq.q.lt
      go_simp
      clear bq0 bq1 bq2 bq3 bqz bql
      refine hK22.out _ _ trivial (fun _ => ?_)
      refine wpAnyH_ready (rs := [5]) (by kernel_rfl) (by decide) ?_
      refine AllReadyH.cons rfl (fun K23 hK23 => ?_) AllReadyH.nil
      refine Nm.appK_ow rfl _ _ rfl rfl hq.ot gN 1 yy rfl (fun j u hu => by rcases j with _ | j <;> simp [Nm.cells] at hu <;> subst hu <;> exact bN.c0) (by omega) hq.size (Nat.le_refl _) ?_
      intro v8 w8 row8 o8 g8 r8
      obtain ⟨A8, n8, c8, rfl, _, _, _⟩ := o8.rd.form
      have bq8 := hq.app_box g8 r8
      replace hq := hq.app HF g8 r8 o8
      refine hK23.out _ _ trivial (fun _ => ?_)
      have hHeld : (fun (_ : World) => True) w8 := trivial
      refine wpAnyH_take (i := 6) (v := .pointer (some ⟨gQ, 1, none⟩)) rfl (by kernel_rfl) (by kernel_rfl) (by kernel_rfl) (fun _ _ _ h => h) (Or.inl ⟨by rfl, by intro w hSw; go_simp⟩) hHeld ?_
      clear hHeld
      refine wpAnyH_ready (rs := [7]) (by kernel_rfl) (by decide) ?_
      refine AllReadyH.cons rfl (fun K24 hK24 => ?_) AllReadyH.nil
      have bq0 := bq8.c0
      have bq1 := bq8.c1
      have bq2 := bq8.c2
      have bq3 := bq8.c3
      have bqz := bq8.frozen
      have bql := bq8.lt
      go_simp
      clear bq0 bq1 bq2 bq3 bqz bql bq8
      generalize hwz : World.setCell _ _ _ = wz_
      obtain rfl : wz_ = setL w8 gQ 1 [.slice A8 n8 c8] := hwz.symm
      clear hwz
      generalize setL w8 _ 1 _ = wS at *
      refine hK24.out _ _ trivial (fun _ => ?_)
      refine ⟨by kernel_rfl, ?_⟩
      have bq0 := hq.q.c0
      have bq1 := hq.q.c1
      have bq2 := hq.q.c2
      have bq3 := hq.q.c3
      have bqz := hq.q.frozen
      have bql := hq.q.lt
      have br0 := hq.r.c0
      have br1 := hq.r.c1
      have br2 := hq.r.c2
      have br3 := hq.r.c3
      have brz := hq.r.frozen
      have brl := hq.r.lt
      go_wp2_with fail
      clear br0 br1 br2 br3 brz brl
      clear bq0 bq1 bq2 bq3 bqz bql
      generalize hwz : World.setCell (World.setCell (World.setCell (World.setCell _ _ _) _ _) _ _) _ _ = wz_
      obtain rfl : wz_ = setL wS (w.heap.size) 0 [.int .i64 m8, .slice A8 n8 c8, .slice A0 n0 c0, .slice A1 n1 c1] := hwz.symm
      clear hwz
      have o0 := hq.ot.box hq.r (by decide) 0 [.int .i64 m8, .slice A8 n8 c8, .slice A0 n0 c0, .slice A1 n1 c1]
      have o1 := hq.os.box hq.r (by decide) 0 [.int .i64 m8, .slice A8 n8 c8, .slice A0 n0 c0, .slice A1 n1 c1]
      have o2 := hq.ow.box hq.r (by decide) 0 [.int .i64 m8, .slice A8 n8 c8, .slice A0 n0 c0, .slice A1 n1 c1]
      have gS := setL_grown [.int .i64 m8, .slice A8 n8 c8, .slice A0 n0 c0, .slice A1 n1 c1] wS (w.heap.size) 0
      have hG := grown_new hq.G gS (fun q e => by injection e with e; omega)
      have hc := hq.c.other gS (by omega)
      have bR := hq.r.setAll [.int .i64 m8, .slice A8 n8 c8, .slice A0 n0 c0, .slice A1 n1 c1] rfl
      have zS : (setL wS (w.heap.size) 0 [.int .i64 m8, .slice A8 n8 c8, .slice A0 n0 c0, .slice A1 n1 c1]).heap.size = wS.heap.size := setL_size _ _ _ _
      generalize setL wS _ 0 _ = wE at *
      have u0_ := bR.c0
      have u1_ := bR.c1
      have u2_ := bR.c2
      have u3_ := bR.c3
      have F4 := (show (st ++ [yy]).length ≤ 5 by simp; omega)
      have F5 := hF2
      have F9 := hF3
      have O0 := o0.mono (Nat.le_refl _) (Nat.le_of_eq zS.symm)
      have O1 := o1.mono (Nat.le_refl _) (Nat.le_of_eq zS.symm)
      have O2 := o2.mono (Nat.le_refl _) (Nat.le_of_eq zS.symm)
      have hc2 : Cur wE g cv (k + 700) := hc.mono (by omega)
      refine bodyPost_ret (by simp only [results, Tryz.results48]; simp [go_sem, u0_, u1_, u2_, u3_]; rfl) rfl ?_
      first | exact ⟨_, _, _, _, _, _, _, rfl, F4, F5, F9, O0, O1, O2, hG, hc2⟩ | exact ⟨_, _, _, _, rfl, _, F4, _, F5, _, F9, O0, O1, O2, hG, hc2⟩
   ·subst h2
    have bq0 := hq.q.c0
    have bq1 := hq.q.c1
    have bq2 := hq.q.c2
    have bq3 := hq.q.c3
    have bqz := hq.q.frozen
    have bql := hq.q.lt
    go_wp2_with fail
    clear bq0 bq1 bq2 bq3 bqz bql
    have zb := hq.size
    refine (queue_any g _ _ l _ hq.h (DF.hle HF hq) hg hq.c (by omega)).mono ?_; rintro q_ wo ⟨v5, v6, l5, l6, rfl, _, n5_, n6_, o5, o6, gg, kk⟩
    obtain ⟨A5, n5, c5, rfl, _, _, _⟩ := o5.rd.form
    obtain ⟨A6, n6, c6, rfl, _, _, _⟩ := o6.rd.form
    replace hq := hq.pick HF gg kk
    clear gg kk
    have bq0 := hq.q.c0
    have bq1 := hq.q.c1
    have bq2 := hq.q.c2
    have bq3 := hq.q.c3
    have bqz := hq.q.frozen
    have bql := hq.q.lt
    have br0 := hq.r.c0
    have br1 := hq.r.c1
    have br2 := hq.r.c2
    have br3 := hq.r.c3
    have brz := hq.r.frozen
    have brl := hq.r.lt
    go_upto_region 24 with fail
    clear br0 br1 br2 br3 brz brl
    clear bq0 bq1 bq2 bq3 bqz bql
    generalize hwz : World.setCell (World.setCell _ _ _) _ _ = wz_
    obtain rfl : wz_ = setL wo gQ 2 [.slice A5 n5 c5, .slice A6 n6 c6] := hwz.symm
    clear hwz
    replace hq := hq.store23 HF (o5.mono zb (Nat.le_refl _)) (o6.mono zb (Nat.le_refl _))
    generalize setL wo _ 2 _ = wS at *
    have bq0 := hq.q.c0
    have bq1 := hq.q.c1
    have bq2 := hq.q.c2
    have bq3 := hq.q.c3
    have bqz := hq.q.frozen
    have bql := hq.q.lt
    have br0 := hq.r.c0
    have br1 := hq.r.c1
    have br2 := hq.r.c2
    have br3 := hq.r.c3
    have brz := hq.r.frozen
    have brl := hq.r.lt
    go_wp2_with fail
    clear br0 br1 br2 br3 brz brl
    clear bq0 bq1 bq2 bq3 bqz bql
    generalize hwz : World.setCell (World.setCell (World.setCell (World.setCell _ _ _) _ _) _ _) _ _ = wz_
    obtain rfl : wz_ = setL wS (w.heap.size) 0 [.int .i64 m8, .slice At nt ct, .slice A5 n5 c5, .slice A6 n6 c6] := hwz.symm
    clear hwz
    have o0 := hq.ot.box hq.r (by decide) 0 [.int .i64 m8, .slice At nt ct, .slice A5 n5 c5, .slice A6 n6 c6]
    have o1 := hq.os.box hq.r (by decide) 0 [.int .i64 m8, .slice At nt ct, .slice A5 n5 c5, .slice A6 n6 c6]
    have o2 := hq.ow.box hq.r (by decide) 0 [.int .i64 m8, .slice At nt ct, .slice A5 n5 c5, .slice A6 n6 c6]
    have gS := setL_grown [.int .i64 m8, .slice At nt ct, .slice A5 n5 c5, .slice A6 n6 c6] wS (w.heap.size) 0
    have hG := grown_new hq.G gS (fun q e => by injection e with e; omega)
    have hc := hq.c.other gS (by omega)
    have bR := hq.r.setAll [.int .i64 m8, .slice At nt ct, .slice A5 n5 c5, .slice A6 n6 c6] rfl
    have zS : (setL wS (w.heap.size) 0 [.int .i64 m8, .slice At nt ct, .slice A5 n5 c5, .slice A6 n6 c6]).heap.size = wS.heap.size := setL_size _ _ _ _
    generalize setL wS _ 0 _ = wE at *
    have u0_ := bR.c0
    have u1_ := bR.c1
    have u2_ := bR.c2
    have u3_ := bR.c3
    have F4 : st.length ≤ 5 := by omega
    have F5 := n5_
    have F9 := n6_
    have O0 := o0.mono (Nat.le_refl _) (Nat.le_of_eq zS.symm)
    have O1 := o1.mono (Nat.le_refl _) (Nat.le_of_eq zS.symm)
    have O2 := o2.mono (Nat.le_refl _) (Nat.le_of_eq zS.symm)
    have hc2 : Cur wE g cv (k + 700) := hc.mono (by omega)
    refine bodyPost_ret (by simp only [results, Tryz.results48]; simp [go_sem, u0_, u1_, u2_, u3_]; rfl) rfl ?_
    first | exact ⟨_, _, _, _, _, _, _, rfl, F4, F5, F9, O0, O1, O2, hG, hc2⟩ | exact ⟨_, _, _, _, rfl, _, F4, _, F5, _, F9, O0, O1, O2, hG, hc2⟩

end Go.Proofs.YtndfmkbpdoohfaaGreat

/- The reference's Draw functions of the interfaces' laws: they return something, in new memory. No condition. -/
namespace Go.Proofs.YtndfmkbpdoohfaaGreat
open Go.RowKit Go.ChangeShapes Go.WideShapes Go.Deep

set_option maxRecDepth 8000 in
set_option maxHeartbeats 2000000 in
theorem DrawIsInterface_any (cv : Value) (l : List UInt8) (w : World) {lo hi : Nat} (h : Rd By.cells 1 w lo hi cv l) (hh : hi ≤ w.heap.size) :
  Calls Tryz.prog 33 #[cv] w fun e w' => ∃ (m : Int) (vt vs vw : Value) (st : List Int) (ls : List Sl) (lw : List Wt), e = .returned (.agg #[.int .i64 m, vt, vs, vw]) ∧ st.length ≤ 1048576 ∧ ls.length ≤ 1048576 ∧ lw.length ≤ 1048576 ∧ Ow Nm.cells 1 3 w' w.heap.size w'.heap.size vt st ∧ Ow Sl.cells 3 93 w' w.heap.size w'.heap.size vs ls ∧ Ow Wt.cells 2 107 w' w.heap.size w'.heap.size vw lw ∧ Below w.heap.size w w' := by
 obtain ⟨Ac, nc, cc, rfl, _, _, _⟩ := h.form
 go_enter Tryz.func33, Tryz.ntmps33
 go_wp2_with fail
 have bR := Box.new w #[.int .i64 0, .slice none 0 0, .slice none 0 0, .slice none 0 0] 30 rfl
 have hB := (Below.refl w.heap.size w).alloc (Nat.le_refl _) (.cells #[.int .i64 0, .slice none 0 0, .slice none 0 0, .slice none 0 0] 30)
 have zr : (w.alloc (.cells #[.int .i64 0, .slice none 0 0, .slice none 0 0, .slice none 0 0] 30)).heap.size = w.heap.size + 1 := by simp
 generalize w.alloc (.cells #[.int .i64 0, .slice none 0 0, .slice none 0 0, .slice none 0 0] 30) = wR at *
 have bx := Box.new wR #[.slice Ac nc cc, .int .i64 0, .int .u64 0] 67 rfl
 have bl := (Below.refl wR.heap.size wR).alloc (Nat.le_refl _) (.cells #[.slice Ac nc cc, .int .i64 0, .int .u64 0] 67)
 replace bR := bR.below bl bR.lt
 replace hB := hB.alloc (by omega) (.cells #[.slice Ac nc cc, .int .i64 0, .int .u64 0] 67)
 have za : (wR.alloc (.cells #[.slice Ac nc cc, .int .i64 0, .int .u64 0] 67)).heap.size = wR.heap.size + 1 := by simp
 have hc : Cur (wR.alloc (.cells #[.slice Ac nc cc, .int .i64 0, .int .u64 0] 67)) wR.heap.size (.slice Ac nc cc) 0 := ⟨0, 0, Nat.le_refl _, Lib.hid (by unfold U64; omega), bx⟩
 have hg : wR.heap.size < lo ∨ hi ≤ wR.heap.size := .inr (by omega)
 replace h := h.below hB hh
 clear bx bl
 generalize wR.alloc _ = w0 at *
 generalize wR.heap.size = g at *
 rw [← zr]
 refine (iface_any g _ _ l w0 h (by omega) hg hc (by omega)).mono ?_; rintro q_ w1 ⟨m1, v0, v1, v2, t1, l1, lw1, rfl, n0, n1, n2, o0, o1, o2, gg1, kk1⟩
 clear hc
 replace h := h.grown gg1 (by omega) (fun q e => by injection e with e; omega)
 replace bR := bR.keep (gg1.block _ bR.lt (fun e => by injection e with e; omega))
 replace hB := hB.grown gg1 (by omega) (fun q e => by injection e with e; omega)
 have z_2 := gg1.size
 clear gg1
 obtain ⟨A0, k0, c0, rfl, _, _, _⟩ := o0.rd.form
 obtain ⟨A1, k1, c1, rfl, _, _, _⟩ := o1.rd.form
 obtain ⟨A2, k2, c2, rfl, _, _, _⟩ := o2.rd.form
 have bR_z := bR.frozen
 have bR_l := bR.lt
 have bR_0 := bR.c0
 have bR_1 := bR.c1
 have bR_2 := bR.c2
 have bR_3 := bR.c3
 go_wp2_with fail
 clear bR_z bR_l bR_0 bR_1 bR_2 bR_3
 generalize hwz : World.setCell (World.setCell (World.setCell (World.setCell _ _ _) _ _) _ _) _ _ = wz_
 obtain rfl : wz_ = setL w1 (w.heap.size) 0 [.int .i64 m1, .slice A0 k0 c0, .slice A1 k1 c1, .slice A2 k2 c2] := hwz.symm
 clear hwz
 replace hB := setL_below hB [.int .i64 m1, .slice A0 k0 c0, .slice A1 k1 c1, .slice A2 k2 c2] (w.heap.size) 0 (Nat.le_refl _)
 replace o0 := o0.box bR (by decide) 0 [.int .i64 m1, .slice A0 k0 c0, .slice A1 k1 c1, .slice A2 k2 c2]
 replace o1 := o1.box bR (by decide) 0 [.int .i64 m1, .slice A0 k0 c0, .slice A1 k1 c1, .slice A2 k2 c2]
 replace o2 := o2.box bR (by decide) 0 [.int .i64 m1, .slice A0 k0 c0, .slice A1 k1 c1, .slice A2 k2 c2]
 have zS : (setL w1 (w.heap.size) 0 [.int .i64 m1, .slice A0 k0 c0, .slice A1 k1 c1, .slice A2 k2 c2]).heap.size = w1.heap.size := setL_size _ _ _ _
 replace bR := bR.setAll [.int .i64 m1, .slice A0 k0 c0, .slice A1 k1 c1, .slice A2 k2 c2] rfl
 generalize setL w1 _ 0 _ = wZ at *
 have u0_ := bR.c0
 have u1_ := bR.c1
 have u2_ := bR.c2
 have u3_ := bR.c3
 refine bodyPost_ret (by simp only [results, Tryz.results33]; simp [go_sem, u0_, u1_, u2_, u3_]; rfl) rfl ?_
 exact ⟨_, _, _, _, _, _, _, rfl, by omega, by omega, by omega, o0.mono (by omega) (by omega), o1.mono (by omega) (by omega), o2.mono (by omega) (by omega), hB⟩
set_option maxRecDepth 8000 in
set_option maxHeartbeats 2000000 in
theorem DrawRunningPriority_any (cv : Value) (l : List UInt8) (w : World) {lo hi : Nat} (h : Rd By.cells 1 w lo hi cv l) (hh : hi ≤ w.heap.size) :
  Calls Tryz.prog 29 #[cv] w fun e w' => ∃ (m : Int) (vt vs vw : Value) (st : List Int) (ls : List Sl) (lw : List Wt), e = .returned (.agg #[.int .i64 m, vt, vs, vw]) ∧ st.length ≤ 1048576 ∧ ls.length ≤ 1048576 ∧ lw.length ≤ 1048576 ∧ Ow Nm.cells 1 3 w' w.heap.size w'.heap.size vt st ∧ Ow Sl.cells 3 93 w' w.heap.size w'.heap.size vs ls ∧ Ow Wt.cells 2 107 w' w.heap.size w'.heap.size vw lw ∧ Below w.heap.size w w' := by
 go_enter Tryz.func29, Tryz.ntmps29
 go_wp2_with fail
 have bR := Box.new w #[.int .i64 0, .slice none 0 0, .slice none 0 0, .slice none 0 0] 30 rfl
 have hB := (Below.refl w.heap.size w).alloc (Nat.le_refl _) (.cells #[.int .i64 0, .slice none 0 0, .slice none 0 0, .slice none 0 0] 30)
 have zr : (w.alloc (.cells #[.int .i64 0, .slice none 0 0, .slice none 0 0, .slice none 0 0] 30)).heap.size = w.heap.size + 1 := by simp
 replace h := h.below hB hh
 generalize w.alloc (.cells #[.int .i64 0, .slice none 0 0, .slice none 0 0, .slice none 0 0] 30) = wR at *
 refine (DrawIsInterface_any cv l wR h (by omega)).mono ?_; rintro q_ w1 ⟨m1, v0, v1, v2, t1, l1, lw1, rfl, n0, n1, n2, o0, o1, o2, b1⟩
 obtain ⟨A0, k0, c0, rfl, _, _, _⟩ := o0.rd.form
 obtain ⟨A1, k1, c1, rfl, _, _, _⟩ := o1.rd.form
 obtain ⟨A2, k2, c2, rfl, _, _, _⟩ := o2.rd.form
 replace bR := bR.below b1 bR.lt
 have z1 := b1.size
 replace hB := hB.trans (b1.mono (by omega))
 clear b1
 have bR_z := bR.frozen
 have bR_l := bR.lt
 have bR_0 := bR.c0
 have bR_1 := bR.c1
 have bR_2 := bR.c2
 have bR_3 := bR.c3
 go_wp2_with fail
 clear bR_z bR_l bR_0 bR_1 bR_2 bR_3
 generalize hwz : World.setCell (World.setCell (World.setCell (World.setCell _ _ _) _ _) _ _) _ _ = wz_
 obtain rfl : wz_ = setL w1 (w.heap.size) 0 [.int .i64 m1, .slice A0 k0 c0, .slice A1 k1 c1, .slice A2 k2 c2] := hwz.symm
 clear hwz
 replace hB := setL_below hB [.int .i64 m1, .slice A0 k0 c0, .slice A1 k1 c1, .slice A2 k2 c2] (w.heap.size) 0 (Nat.le_refl _)
 replace o0 := o0.box bR (by decide) 0 [.int .i64 m1, .slice A0 k0 c0, .slice A1 k1 c1, .slice A2 k2 c2]
 replace o1 := o1.box bR (by decide) 0 [.int .i64 m1, .slice A0 k0 c0, .slice A1 k1 c1, .slice A2 k2 c2]
 replace o2 := o2.box bR (by decide) 0 [.int .i64 m1, .slice A0 k0 c0, .slice A1 k1 c1, .slice A2 k2 c2]
 have zS : (setL w1 (w.heap.size) 0 [.int .i64 m1, .slice A0 k0 c0, .slice A1 k1 c1, .slice A2 k2 c2]).heap.size = w1.heap.size := setL_size _ _ _ _
 replace bR := bR.setAll [.int .i64 m1, .slice A0 k0 c0, .slice A1 k1 c1, .slice A2 k2 c2] rfl
 generalize setL w1 _ 0 _ = wZ at *
 have u0_ := bR.c0
 have u1_ := bR.c1
 have u2_ := bR.c2
 have u3_ := bR.c3
 refine bodyPost_ret (by simp only [results, Tryz.results29]; simp [go_sem, u0_, u1_, u2_, u3_]; rfl) rfl ?_
 exact ⟨_, _, _, _, _, _, _, rfl, by omega, by omega, by omega, o0.mono (by omega) (by omega), o1.mono (by omega) (by omega), o2.mono (by omega) (by omega), hB⟩
set_option maxRecDepth 8000 in
set_option maxHeartbeats 2000000 in
theorem DrawDepthOf_any (cv : Value) (l : List UInt8) (w : World) {lo hi : Nat} (h : Rd By.cells 1 w lo hi cv l) (hh : hi ≤ w.heap.size) :
  Calls Tryz.prog 31 #[cv] w fun e w' => ∃ (m : Int) (vt vs vw : Value) (st : List Int) (ls : List Sl) (lw : List Wt), e = .returned (.agg #[.int .i64 m, vt, vs, vw]) ∧ st.length ≤ 1048576 ∧ ls.length ≤ 1048576 ∧ lw.length ≤ 1048576 ∧ Ow Nm.cells 1 3 w' w.heap.size w'.heap.size vt st ∧ Ow Sl.cells 3 93 w' w.heap.size w'.heap.size vs ls ∧ Ow Wt.cells 2 107 w' w.heap.size w'.heap.size vw lw ∧ Below w.heap.size w w' := by
 go_enter Tryz.func31, Tryz.ntmps31
 go_wp2_with fail
 have bR := Box.new w #[.int .i64 0, .slice none 0 0, .slice none 0 0, .slice none 0 0] 30 rfl
 have hB := (Below.refl w.heap.size w).alloc (Nat.le_refl _) (.cells #[.int .i64 0, .slice none 0 0, .slice none 0 0, .slice none 0 0] 30)
 have zr : (w.alloc (.cells #[.int .i64 0, .slice none 0 0, .slice none 0 0, .slice none 0 0] 30)).heap.size = w.heap.size + 1 := by simp
 replace h := h.below hB hh
 generalize w.alloc (.cells #[.int .i64 0, .slice none 0 0, .slice none 0 0, .slice none 0 0] 30) = wR at *
 refine (DrawIsInterface_any cv l wR h (by omega)).mono ?_; rintro q_ w1 ⟨m1, v0, v1, v2, t1, l1, lw1, rfl, n0, n1, n2, o0, o1, o2, b1⟩
 obtain ⟨A0, k0, c0, rfl, _, _, _⟩ := o0.rd.form
 obtain ⟨A1, k1, c1, rfl, _, _, _⟩ := o1.rd.form
 obtain ⟨A2, k2, c2, rfl, _, _, _⟩ := o2.rd.form
 replace bR := bR.below b1 bR.lt
 have z1 := b1.size
 replace hB := hB.trans (b1.mono (by omega))
 clear b1
 have bR_z := bR.frozen
 have bR_l := bR.lt
 have bR_0 := bR.c0
 have bR_1 := bR.c1
 have bR_2 := bR.c2
 have bR_3 := bR.c3
 go_wp2_with fail
 clear bR_z bR_l bR_0 bR_1 bR_2 bR_3
 generalize hwz : World.setCell (World.setCell (World.setCell (World.setCell _ _ _) _ _) _ _) _ _ = wz_
 obtain rfl : wz_ = setL w1 (w.heap.size) 0 [.int .i64 m1, .slice A0 k0 c0, .slice A1 k1 c1, .slice A2 k2 c2] := hwz.symm
 clear hwz
 replace hB := setL_below hB [.int .i64 m1, .slice A0 k0 c0, .slice A1 k1 c1, .slice A2 k2 c2] (w.heap.size) 0 (Nat.le_refl _)
 replace o0 := o0.box bR (by decide) 0 [.int .i64 m1, .slice A0 k0 c0, .slice A1 k1 c1, .slice A2 k2 c2]
 replace o1 := o1.box bR (by decide) 0 [.int .i64 m1, .slice A0 k0 c0, .slice A1 k1 c1, .slice A2 k2 c2]
 replace o2 := o2.box bR (by decide) 0 [.int .i64 m1, .slice A0 k0 c0, .slice A1 k1 c1, .slice A2 k2 c2]
 have zS : (setL w1 (w.heap.size) 0 [.int .i64 m1, .slice A0 k0 c0, .slice A1 k1 c1, .slice A2 k2 c2]).heap.size = w1.heap.size := setL_size _ _ _ _
 replace bR := bR.setAll [.int .i64 m1, .slice A0 k0 c0, .slice A1 k1 c1, .slice A2 k2 c2] rfl
 generalize setL w1 _ 0 _ = wZ at *
 have u0_ := bR.c0
 have u1_ := bR.c1
 have u2_ := bR.c2
 have u3_ := bR.c3
 refine bodyPost_ret (by simp only [results, Tryz.results31]; simp [go_sem, u0_, u1_, u2_, u3_]; rfl) rfl ?_
 exact ⟨_, _, _, _, _, _, _, rfl, by omega, by omega, by omega, o0.mono (by omega) (by omega), o1.mono (by omega) (by omega), o2.mono (by omega) (by omega), hB⟩

end Go.Proofs.YtndfmkbpdoohfaaGreat

/- The reference's draws of ops and of what RunOps takes: they return something, in new memory. No condition but on the number of reads before. -/
namespace Go.Proofs.YtndfmkbpdoohfaaGreat
open Go.RowKit Go.ChangeShapes Go.WideShapes Go.Deep

set_option maxRecDepth 8000 in
set_option maxHeartbeats 4000000 in
theorem op_any (g k : Nat) (cv : Value) (l : List UInt8) (w : World) {lo hi : Nat} (h : Rd By.cells 1 w lo hi cv l) (hh : hi ≤ w.heap.size) (hg : g < lo ∨ hi ≤ g) (hc : Cur w g cv k) (hk : k ≤ 100000) :
  Calls Tryz.prog 62 #[.pointer (some ⟨g, 0, none⟩)] w fun e w' => ∃ x : Op_, e = .returned x.val ∧ w.grownBy w' (some g) ∧ Cur w' g cv (k + 20) := by
 have hgl := hc.lt
 have hG := World.grownBy.refl w (some g)
 go_enter Tryz.func62, Tryz.ntmps62
 have bR := Box.new w #[.int .i64 0, .int .i64 0, .int .i64 0] 54 rfl
 have ga0 := grown_alloc w (.cells #[.int .i64 0, .int .i64 0, .int .i64 0] 54)
 have za0 : w.heap.size + 1 ≤ (w.alloc (.cells #[.int .i64 0, .int .i64 0, .int .i64 0] 54)).heap.size := by simp
 go_wp2_with fail
 replace hc := hc.grown0 ga0
 replace h := h.grown ga0 (by omega) (fun q e => by cases e)
 replace hG := grown_trans hG (grown_weaken ga0)
 have z_1 := ga0.size
 clear ga0
 generalize w.alloc _ = wA at *
 refine (pick_any g _ _ l 8 wA h (by omega) hg hc (by omega) (by omega)).mono ?_; rintro q_ w2 ⟨x1, rfl, x1_0, x1_1, gg2, kk2⟩
 clear hc
 replace h := h.grown gg2 (by omega) (fun q e => by injection e with e; omega)
 replace bR := bR.keep (gg2.block _ bR.lt (fun e => by injection e with e; omega))
 replace hG := grown_trans hG gg2
 have z_3 := gg2.size
 clear gg2
 have hx1 : x1 = 0 ∨ x1 = 1 ∨ x1 = 2 ∨ x1 = 3 ∨ x1 = 4 ∨ x1 = 5 ∨ x1 = 6 ∨ x1 = 7 := by omega
 clear x1_0 x1_1
 rcases hx1 with rfl | rfl | rfl | rfl | rfl | rfl | rfl | rfl
 ·have bR_0 := bR.c0
  have bR_1 := bR.c1
  have bR_2 := bR.c2
  have bR_z := bR.frozen
  have bR_l := bR.lt
  go_wp2_with fail
  clear bR_0 bR_1 bR_2 bR_z bR_l
  refine (pick_any g _ _ l 8 w2 h (by omega) hg kk2 (by omega) (by omega)).mono ?_; rintro q_ w4 ⟨x2, rfl, x2_0, x2_1, gg4, kk4⟩
  clear kk2
  replace h := h.grown gg4 (by omega) (fun q e => by injection e with e; omega)
  replace bR := bR.keep (gg4.block _ bR.lt (fun e => by injection e with e; omega))
  replace hG := grown_trans hG gg4
  have z_5 := gg4.size
  clear gg4
  have bR_0 := bR.c0
  have bR_1 := bR.c1
  have bR_2 := bR.c2
  have bR_z := bR.frozen
  have bR_l := bR.lt
  go_wp2_with fail
  clear bR_0 bR_1 bR_2 bR_z bR_l
  refine (pick_any g _ _ l 12 w4 h (by omega) hg kk4 (by omega) (by omega)).mono ?_; rintro q_ w6 ⟨x3, rfl, x3_0, x3_1, gg6, kk6⟩
  clear kk4
  replace h := h.grown gg6 (by omega) (fun q e => by injection e with e; omega)
  replace bR := bR.keep (gg6.block _ bR.lt (fun e => by injection e with e; omega))
  replace hG := grown_trans hG gg6
  have z_7 := gg6.size
  clear gg6
  have bR_0 := bR.c0
  have bR_1 := bR.c1
  have bR_2 := bR.c2
  have bR_z := bR.frozen
  have bR_l := bR.lt
  go_wp2_with fail
  clear bR_0 bR_1 bR_2 bR_z bR_l
  generalize hwz : World.setCell (World.setCell (World.setCell _ _ _) _ _) _ _ = wz_
  obtain rfl : wz_ = setL w6 w.heap.size 0 [.int .i64 1, .int .i64 x2, .int .i64 x3] := hwz.symm
  clear hwz
  have gs := setL_grown [.int .i64 1, .int .i64 x2, .int .i64 x3] w6 w.heap.size 0
  replace bR := bR.setAll [.int .i64 1, .int .i64 x2, .int .i64 x3] rfl
  replace hG := grown_new hG gs (fun q e => by injection e with e; omega)
  replace kk6 := kk6.other gs (by omega)
  clear gs
  generalize setL w6 _ 0 _ = wR at *
  have u0_ := bR.c0
  have u1_ := bR.c1
  have u2_ := bR.c2
  refine bodyPost_ret (by simp only [results, Tryz.results62]; simp [go_sem, u0_, u1_, u2_]; rfl) rfl ?_
  exact ⟨⟨1, x2, x3⟩, rfl, hG, kk6.mono (by omega)⟩
 ·have bR_0 := bR.c0
  have bR_1 := bR.c1
  have bR_2 := bR.c2
  have bR_z := bR.frozen
  have bR_l := bR.lt
  go_wp2_with fail
  clear bR_0 bR_1 bR_2 bR_z bR_l
  refine (pick_any g _ _ l 8 w2 h (by omega) hg kk2 (by omega) (by omega)).mono ?_; rintro q_ w4 ⟨x2, rfl, x2_0, x2_1, gg4, kk4⟩
  clear kk2
  replace h := h.grown gg4 (by omega) (fun q e => by injection e with e; omega)
  replace bR := bR.keep (gg4.block _ bR.lt (fun e => by injection e with e; omega))
  replace hG := grown_trans hG gg4
  have z_5 := gg4.size
  clear gg4
  have bR_0 := bR.c0
  have bR_1 := bR.c1
  have bR_2 := bR.c2
  have bR_z := bR.frozen
  have bR_l := bR.lt
  go_wp2_with fail
  clear bR_0 bR_1 bR_2 bR_z bR_l
  refine (pick_any g _ _ l 12 w4 h (by omega) hg kk4 (by omega) (by omega)).mono ?_; rintro q_ w6 ⟨x3, rfl, x3_0, x3_1, gg6, kk6⟩
  clear kk4
  replace h := h.grown gg6 (by omega) (fun q e => by injection e with e; omega)
  replace bR := bR.keep (gg6.block _ bR.lt (fun e => by injection e with e; omega))
  replace hG := grown_trans hG gg6
  have z_7 := gg6.size
  clear gg6
  have bR_0 := bR.c0
  have bR_1 := bR.c1
  have bR_2 := bR.c2
  have bR_z := bR.frozen
  have bR_l := bR.lt
  go_wp2_with fail
  clear bR_0 bR_1 bR_2 bR_z bR_l
  generalize hwz : World.setCell (World.setCell (World.setCell _ _ _) _ _) _ _ = wz_
  obtain rfl : wz_ = setL w6 w.heap.size 0 [.int .i64 1, .int .i64 x2, .int .i64 x3] := hwz.symm
  clear hwz
  have gs := setL_grown [.int .i64 1, .int .i64 x2, .int .i64 x3] w6 w.heap.size 0
  replace bR := bR.setAll [.int .i64 1, .int .i64 x2, .int .i64 x3] rfl
  replace hG := grown_new hG gs (fun q e => by injection e with e; omega)
  replace kk6 := kk6.other gs (by omega)
  clear gs
  generalize setL w6 _ 0 _ = wR at *
  have u0_ := bR.c0
  have u1_ := bR.c1
  have u2_ := bR.c2
  refine bodyPost_ret (by simp only [results, Tryz.results62]; simp [go_sem, u0_, u1_, u2_]; rfl) rfl ?_
  exact ⟨⟨1, x2, x3⟩, rfl, hG, kk6.mono (by omega)⟩
 ·have bR_0 := bR.c0
  have bR_1 := bR.c1
  have bR_2 := bR.c2
  have bR_z := bR.frozen
  have bR_l := bR.lt
  go_wp2_with fail
  clear bR_0 bR_1 bR_2 bR_z bR_l
  refine (pick_any g _ _ l 8 w2 h (by omega) hg kk2 (by omega) (by omega)).mono ?_; rintro q_ w4 ⟨x2, rfl, x2_0, x2_1, gg4, kk4⟩
  clear kk2
  replace h := h.grown gg4 (by omega) (fun q e => by injection e with e; omega)
  replace bR := bR.keep (gg4.block _ bR.lt (fun e => by injection e with e; omega))
  replace hG := grown_trans hG gg4
  have z_5 := gg4.size
  clear gg4
  have bR_0 := bR.c0
  have bR_1 := bR.c1
  have bR_2 := bR.c2
  have bR_z := bR.frozen
  have bR_l := bR.lt
  go_wp2_with fail
  clear bR_0 bR_1 bR_2 bR_z bR_l
  refine (pick_any g _ _ l 12 w4 h (by omega) hg kk4 (by omega) (by omega)).mono ?_; rintro q_ w6 ⟨x3, rfl, x3_0, x3_1, gg6, kk6⟩
  clear kk4
  replace h := h.grown gg6 (by omega) (fun q e => by injection e with e; omega)
  replace bR := bR.keep (gg6.block _ bR.lt (fun e => by injection e with e; omega))
  replace hG := grown_trans hG gg6
  have z_7 := gg6.size
  clear gg6
  have bR_0 := bR.c0
  have bR_1 := bR.c1
  have bR_2 := bR.c2
  have bR_z := bR.frozen
  have bR_l := bR.lt
  go_wp2_with fail
  clear bR_0 bR_1 bR_2 bR_z bR_l
  generalize hwz : World.setCell (World.setCell (World.setCell _ _ _) _ _) _ _ = wz_
  obtain rfl : wz_ = setL w6 w.heap.size 0 [.int .i64 1, .int .i64 x2, .int .i64 x3] := hwz.symm
  clear hwz
  have gs := setL_grown [.int .i64 1, .int .i64 x2, .int .i64 x3] w6 w.heap.size 0
  replace bR := bR.setAll [.int .i64 1, .int .i64 x2, .int .i64 x3] rfl
  replace hG := grown_new hG gs (fun q e => by injection e with e; omega)
  replace kk6 := kk6.other gs (by omega)
  clear gs
  generalize setL w6 _ 0 _ = wR at *
  have u0_ := bR.c0
  have u1_ := bR.c1
  have u2_ := bR.c2
  refine bodyPost_ret (by simp only [results, Tryz.results62]; simp [go_sem, u0_, u1_, u2_]; rfl) rfl ?_
  exact ⟨⟨1, x2, x3⟩, rfl, hG, kk6.mono (by omega)⟩
 ·have bR_0 := bR.c0
  have bR_1 := bR.c1
  have bR_2 := bR.c2
  have bR_z := bR.frozen
  have bR_l := bR.lt
  go_wp2_with fail
  clear bR_0 bR_1 bR_2 bR_z bR_l
  generalize hwz : World.setCell (World.setCell (World.setCell _ _ _) _ _) _ _ = wz_
  obtain rfl : wz_ = setL w2 w.heap.size 0 [.int .i64 2, .int .i64 0, .int .i64 0] := hwz.symm
  clear hwz
  have gs := setL_grown [.int .i64 2, .int .i64 0, .int .i64 0] w2 w.heap.size 0
  replace bR := bR.setAll [.int .i64 2, .int .i64 0, .int .i64 0] rfl
  replace hG := grown_new hG gs (fun q e => by injection e with e; omega)
  replace kk2 := kk2.other gs (by omega)
  clear gs
  generalize setL w2 _ 0 _ = wR at *
  have u0_ := bR.c0
  have u1_ := bR.c1
  have u2_ := bR.c2
  refine bodyPost_ret (by simp only [results, Tryz.results62]; simp [go_sem, u0_, u1_, u2_]; rfl) rfl ?_
  exact ⟨⟨2, 0, 0⟩, rfl, hG, kk2.mono (by omega)⟩
 ·have bR_0 := bR.c0
  have bR_1 := bR.c1
  have bR_2 := bR.c2
  have bR_z := bR.frozen
  have bR_l := bR.lt
  go_wp2_with fail
  clear bR_0 bR_1 bR_2 bR_z bR_l
  generalize hwz : World.setCell (World.setCell (World.setCell _ _ _) _ _) _ _ = wz_
  obtain rfl : wz_ = setL w2 w.heap.size 0 [.int .i64 2, .int .i64 0, .int .i64 0] := hwz.symm
  clear hwz
  have gs := setL_grown [.int .i64 2, .int .i64 0, .int .i64 0] w2 w.heap.size 0
  replace bR := bR.setAll [.int .i64 2, .int .i64 0, .int .i64 0] rfl
  replace hG := grown_new hG gs (fun q e => by injection e with e; omega)
  replace kk2 := kk2.other gs (by omega)
  clear gs
  generalize setL w2 _ 0 _ = wR at *
  have u0_ := bR.c0
  have u1_ := bR.c1
  have u2_ := bR.c2
  refine bodyPost_ret (by simp only [results, Tryz.results62]; simp [go_sem, u0_, u1_, u2_]; rfl) rfl ?_
  exact ⟨⟨2, 0, 0⟩, rfl, hG, kk2.mono (by omega)⟩
 ·have bR_0 := bR.c0
  have bR_1 := bR.c1
  have bR_2 := bR.c2
  have bR_z := bR.frozen
  have bR_l := bR.lt
  go_wp2_with fail
  clear bR_0 bR_1 bR_2 bR_z bR_l
  generalize hwz : World.setCell (World.setCell (World.setCell _ _ _) _ _) _ _ = wz_
  obtain rfl : wz_ = setL w2 w.heap.size 0 [.int .i64 3, .int .i64 0, .int .i64 0] := hwz.symm
  clear hwz
  have gs := setL_grown [.int .i64 3, .int .i64 0, .int .i64 0] w2 w.heap.size 0
  replace bR := bR.setAll [.int .i64 3, .int .i64 0, .int .i64 0] rfl
  replace hG := grown_new hG gs (fun q e => by injection e with e; omega)
  replace kk2 := kk2.other gs (by omega)
  clear gs
  generalize setL w2 _ 0 _ = wR at *
  have u0_ := bR.c0
  have u1_ := bR.c1
  have u2_ := bR.c2
  refine bodyPost_ret (by simp only [results, Tryz.results62]; simp [go_sem, u0_, u1_, u2_]; rfl) rfl ?_
  exact ⟨⟨3, 0, 0⟩, rfl, hG, kk2.mono (by omega)⟩
 ·have bR_0 := bR.c0
  have bR_1 := bR.c1
  have bR_2 := bR.c2
  have bR_z := bR.frozen
  have bR_l := bR.lt
  go_wp2_with fail
  clear bR_0 bR_1 bR_2 bR_z bR_l
  have rl := lit_ints w2 [16, 16, 8, 4, 0] #[.int .i64 16, .int .i64 16, .int .i64 8, .int .i64 4, .int .i64 0] 5 rfl rfl (by decide)
  have ga4 := grown_alloc w2 (.cells #[.int .i64 16, .int .i64 16, .int .i64 8, .int .i64 4, .int .i64 0] 3)
  have za4 : (w2.alloc (.cells #[.int .i64 16, .int .i64 16, .int .i64 8, .int .i64 4, .int .i64 0] 3)).heap.size = w2.heap.size + 1 := by simp
  replace kk2 := kk2.grown0 ga4
  replace h := h.grown ga4 (by omega) (fun q e => by cases e)
  replace bR := bR.keep (ga4.block _ bR.lt (fun e => by cases e))
  replace hG := grown_trans hG (grown_weaken ga4)
  have z_5 := ga4.size
  clear ga4
  generalize w2.alloc _ = w4 at *
  generalize hgz5 : w2.heap.size = gz5 at *
  clear hgz5
  refine (among_any g _ _ _ l [16, 16, 8, 4, 0] w4 h (by omega) hg rl (by omega) (by omega) (by decide) (by decide) kk2 (by omega)).mono ?_; rintro q_ w6 ⟨x2, rfl, gg6, kk6⟩
  clear kk2
  replace h := h.grown gg6 (by omega) (fun q e => by injection e with e; omega)
  replace bR := bR.keep (gg6.block _ bR.lt (fun e => by injection e with e; omega))
  replace hG := grown_trans hG gg6
  have z_7 := gg6.size
  clear gg6
  clear rl
  have bR_0 := bR.c0
  have bR_1 := bR.c1
  have bR_2 := bR.c2
  have bR_z := bR.frozen
  have bR_l := bR.lt
  go_wp2_with fail
  clear bR_0 bR_1 bR_2 bR_z bR_l
  generalize hwz : World.setCell (World.setCell (World.setCell _ _ _) _ _) _ _ = wz_
  obtain rfl : wz_ = setL w6 w.heap.size 0 [.int .i64 4, .int .i64 0, .int .i64 x2] := hwz.symm
  clear hwz
  have gs := setL_grown [.int .i64 4, .int .i64 0, .int .i64 x2] w6 w.heap.size 0
  replace bR := bR.setAll [.int .i64 4, .int .i64 0, .int .i64 x2] rfl
  replace hG := grown_new hG gs (fun q e => by injection e with e; omega)
  replace kk6 := kk6.other gs (by omega)
  clear gs
  generalize setL w6 _ 0 _ = wR at *
  have u0_ := bR.c0
  have u1_ := bR.c1
  have u2_ := bR.c2
  refine bodyPost_ret (by simp only [results, Tryz.results62]; simp [go_sem, u0_, u1_, u2_]; rfl) rfl ?_
  exact ⟨⟨4, 0, x2⟩, rfl, hG, kk6.mono (by omega)⟩
 ·have bR_0 := bR.c0
  have bR_1 := bR.c1
  have bR_2 := bR.c2
  have bR_z := bR.frozen
  have bR_l := bR.lt
  go_wp2_with fail
  clear bR_0 bR_1 bR_2 bR_z bR_l
  refine (one_any g _ _ l 3 w2 h (by omega) hg kk2 (by omega) (by omega)).mono ?_; rintro q_ w4 ⟨b2, rfl, gg4, kk4⟩
  clear kk2
  replace h := h.grown gg4 (by omega) (fun q e => by injection e with e; omega)
  replace bR := bR.keep (gg4.block _ bR.lt (fun e => by injection e with e; omega))
  replace hG := grown_trans hG gg4
  have z_5 := gg4.size
  clear gg4
  cases b2
  ·have bR_0 := bR.c0
   have bR_1 := bR.c1
   have bR_2 := bR.c2
   have bR_z := bR.frozen
   have bR_l := bR.lt
   go_wp2_with fail
   clear bR_0 bR_1 bR_2 bR_z bR_l
   generalize hwz : World.setCell (World.setCell (World.setCell _ _ _) _ _) _ _ = wz_
   obtain rfl : wz_ = setL w4 w.heap.size 0 [.int .i64 2, .int .i64 0, .int .i64 0] := hwz.symm
   clear hwz
   have gs := setL_grown [.int .i64 2, .int .i64 0, .int .i64 0] w4 w.heap.size 0
   replace bR := bR.setAll [.int .i64 2, .int .i64 0, .int .i64 0] rfl
   replace hG := grown_new hG gs (fun q e => by injection e with e; omega)
   replace kk4 := kk4.other gs (by omega)
   clear gs
   generalize setL w4 _ 0 _ = wR at *
   have u0_ := bR.c0
   have u1_ := bR.c1
   have u2_ := bR.c2
   refine bodyPost_ret (by simp only [results, Tryz.results62]; simp [go_sem, u0_, u1_, u2_]; rfl) rfl ?_
   exact ⟨⟨2, 0, 0⟩, rfl, hG, kk4.mono (by omega)⟩
  ·have bR_0 := bR.c0
   have bR_1 := bR.c1
   have bR_2 := bR.c2
   have bR_z := bR.frozen
   have bR_l := bR.lt
   go_wp2_with fail
   clear bR_0 bR_1 bR_2 bR_z bR_l
   have rl := lit_ints w4 [0, 5, 2, 4, 1] #[.int .i64 0, .int .i64 5, .int .i64 2, .int .i64 4, .int .i64 1] 5 rfl rfl (by decide)
   have ga6 := grown_alloc w4 (.cells #[.int .i64 0, .int .i64 5, .int .i64 2, .int .i64 4, .int .i64 1] 3)
   have za6 : (w4.alloc (.cells #[.int .i64 0, .int .i64 5, .int .i64 2, .int .i64 4, .int .i64 1] 3)).heap.size = w4.heap.size + 1 := by simp
   replace kk4 := kk4.grown0 ga6
   replace h := h.grown ga6 (by omega) (fun q e => by cases e)
   replace bR := bR.keep (ga6.block _ bR.lt (fun e => by cases e))
   replace hG := grown_trans hG (grown_weaken ga6)
   have z_7 := ga6.size
   clear ga6
   generalize w4.alloc _ = w6 at *
   generalize hgz7 : w4.heap.size = gz7 at *
   clear hgz7
   refine (among_any g _ _ _ l [0, 5, 2, 4, 1] w6 h (by omega) hg rl (by omega) (by omega) (by decide) (by decide) kk4 (by omega)).mono ?_; rintro q_ w8 ⟨x2, rfl, gg8, kk8⟩
   clear kk4
   replace h := h.grown gg8 (by omega) (fun q e => by injection e with e; omega)
   replace bR := bR.keep (gg8.block _ bR.lt (fun e => by injection e with e; omega))
   replace hG := grown_trans hG gg8
   have z_9 := gg8.size
   clear gg8
   clear rl
   have bR_0 := bR.c0
   have bR_1 := bR.c1
   have bR_2 := bR.c2
   have bR_z := bR.frozen
   have bR_l := bR.lt
   go_wp2_with fail
   clear bR_0 bR_1 bR_2 bR_z bR_l
   have rl := lit_ints w8 [0, 8, -1] #[.int .i64 0, .int .i64 8, .int .i64 (-1)] 3 rfl rfl (by decide)
   have ga10 := grown_alloc w8 (.cells #[.int .i64 0, .int .i64 8, .int .i64 (-1)] 3)
   have za10 : (w8.alloc (.cells #[.int .i64 0, .int .i64 8, .int .i64 (-1)] 3)).heap.size = w8.heap.size + 1 := by simp
   replace kk8 := kk8.grown0 ga10
   replace h := h.grown ga10 (by omega) (fun q e => by cases e)
   replace bR := bR.keep (ga10.block _ bR.lt (fun e => by cases e))
   replace hG := grown_trans hG (grown_weaken ga10)
   have z_11 := ga10.size
   clear ga10
   generalize w8.alloc _ = w10 at *
   generalize hgz11 : w8.heap.size = gz11 at *
   clear hgz11
   refine (among_any g _ _ _ l [0, 8, -1] w10 h (by omega) hg rl (by omega) (by omega) (by decide) (by decide) kk8 (by omega)).mono ?_; rintro q_ w12 ⟨x3, rfl, gg12, kk12⟩
   clear kk8
   replace h := h.grown gg12 (by omega) (fun q e => by injection e with e; omega)
   replace bR := bR.keep (gg12.block _ bR.lt (fun e => by injection e with e; omega))
   replace hG := grown_trans hG gg12
   have z_13 := gg12.size
   clear gg12
   clear rl
   have bR_0 := bR.c0
   have bR_1 := bR.c1
   have bR_2 := bR.c2
   have bR_z := bR.frozen
   have bR_l := bR.lt
   go_wp2_with fail
   clear bR_0 bR_1 bR_2 bR_z bR_l
   have rl := lit_ints w12 [0, 16, 17] #[.int .i64 0, .int .i64 16, .int .i64 17] 3 rfl rfl (by decide)
   have ga14 := grown_alloc w12 (.cells #[.int .i64 0, .int .i64 16, .int .i64 17] 3)
   have za14 : (w12.alloc (.cells #[.int .i64 0, .int .i64 16, .int .i64 17] 3)).heap.size = w12.heap.size + 1 := by simp
   replace kk12 := kk12.grown0 ga14
   replace h := h.grown ga14 (by omega) (fun q e => by cases e)
   replace bR := bR.keep (ga14.block _ bR.lt (fun e => by cases e))
   replace hG := grown_trans hG (grown_weaken ga14)
   have z_15 := ga14.size
   clear ga14
   generalize w12.alloc _ = w14 at *
   generalize hgz15 : w12.heap.size = gz15 at *
   clear hgz15
   refine (among_any g _ _ _ l [0, 16, 17] w14 h (by omega) hg rl (by omega) (by omega) (by decide) (by decide) kk12 (by omega)).mono ?_; rintro q_ w16 ⟨x4, rfl, gg16, kk16⟩
   clear kk12
   replace h := h.grown gg16 (by omega) (fun q e => by injection e with e; omega)
   replace bR := bR.keep (gg16.block _ bR.lt (fun e => by injection e with e; omega))
   replace hG := grown_trans hG gg16
   have z_17 := gg16.size
   clear gg16
   clear rl
   have bR_0 := bR.c0
   have bR_1 := bR.c1
   have bR_2 := bR.c2
   have bR_z := bR.frozen
   have bR_l := bR.lt
   go_wp2_with fail
   clear bR_0 bR_1 bR_2 bR_z bR_l
   generalize hwz : World.setCell (World.setCell (World.setCell _ _ _) _ _) _ _ = wz_
   obtain rfl : wz_ = setL w16 w.heap.size 0 [.int .i64 x2, .int .i64 x3, .int .i64 x4] := hwz.symm
   clear hwz
   have gs := setL_grown [.int .i64 x2, .int .i64 x3, .int .i64 x4] w16 w.heap.size 0
   replace bR := bR.setAll [.int .i64 x2, .int .i64 x3, .int .i64 x4] rfl
   replace hG := grown_new hG gs (fun q e => by injection e with e; omega)
   replace kk16 := kk16.other gs (by omega)
   clear gs
   generalize setL w16 _ 0 _ = wR at *
   have u0_ := bR.c0
   have u1_ := bR.c1
   have u2_ := bR.c2
   refine bodyPost_ret (by simp only [results, Tryz.results62]; simp [go_sem, u0_, u1_, u2_]; rfl) rfl ?_
   exact ⟨⟨x2, x3, x4⟩, rfl, hG, kk16.mono (by omega)⟩
set_option maxRecDepth 8000 in
set_option maxHeartbeats 8000000 in
theorem DrawRunOps_any (cv : Value) (l : List UInt8) (w : World) {lo hi : Nat} (h : Rd By.cells 1 w lo hi cv l) (hh : hi ≤ w.heap.size) :
  Calls Tryz.prog 26 #[cv] w fun e w' => ∃ (m : Int) (vt vs vw vo : Value) (st : List Int) (ls : List Sl) (lw : List Wt) (os : List Op_), e = .returned (.tuple #[.agg #[.int .i64 m, vt, vs, vw], vo]) ∧ os.length ≤ 1000 ∧ st.length ≤ 1048576 ∧ ls.length ≤ 1048576 ∧ lw.length ≤ 1048576 ∧ Ow Nm.cells 1 3 w' w.heap.size w'.heap.size vt st ∧ Ow Sl.cells 3 93 w' w.heap.size w'.heap.size vs ls ∧ Ow Wt.cells 2 107 w' w.heap.size w'.heap.size vw lw ∧ Ow Op_.cells 3 54 w' w.heap.size w'.heap.size vo os ∧ Below w.heap.size w w' := by
 obtain ⟨Ac, nc, cc, rfl, _, _, _⟩ := h.form
 go_enter Tryz.func26, Tryz.ntmps26
 go_wp2_with fail
 have bR := Box.new w #[.int .i64 0, .slice none 0 0, .slice none 0 0, .slice none 0 0] 30 rfl
 have hB := (Below.refl w.heap.size w).alloc (Nat.le_refl _) (.cells #[.int .i64 0, .slice none 0 0, .slice none 0 0, .slice none 0 0] 30)
 have zr : (w.alloc (.cells #[.int .i64 0, .slice none 0 0, .slice none 0 0, .slice none 0 0] 30)).heap.size = w.heap.size + 1 := by simp
 generalize w.alloc (.cells #[.int .i64 0, .slice none 0 0, .slice none 0 0, .slice none 0 0] 30) = wR at *
 have bx := Box.new wR #[.slice Ac nc cc, .int .i64 0, .int .u64 0] 67 rfl
 have bl := (Below.refl wR.heap.size wR).alloc (Nat.le_refl _) (.cells #[.slice Ac nc cc, .int .i64 0, .int .u64 0] 67)
 replace bR := bR.below bl bR.lt
 replace hB := hB.alloc (by omega) (.cells #[.slice Ac nc cc, .int .i64 0, .int .u64 0] 67)
 have za : wR.heap.size + 1 ≤ (wR.alloc (.cells #[.slice Ac nc cc, .int .i64 0, .int .u64 0] 67)).heap.size := by simp
 have hc : Cur (wR.alloc (.cells #[.slice Ac nc cc, .int .i64 0, .int .u64 0] 67)) wR.heap.size (.slice Ac nc cc) 0 := ⟨0, 0, Nat.le_refl _, Lib.hid (by unfold U64; omega), bx⟩
 have hg : wR.heap.size < lo ∨ hi ≤ wR.heap.size := .inr (by omega)
 replace h := h.below hB hh
 clear bx bl
 generalize wR.alloc _ = w0 at *
 generalize wR.heap.size = g at *
 rw [← zr]
 have zr1 : w.heap.size + 1 ≤ g := by omega
 clear zr
 refine (iface_any g _ _ l w0 h (by omega) hg hc (by omega)).mono ?_; rintro q_ w1 ⟨m1, v0, v1, v2, t1, l1, lw1, rfl, n0, n1, n2, o0, o1, o2, gg1, kk1⟩
 clear hc
 replace h := h.grown gg1 (by omega) (fun q e => by injection e with e; omega)
 replace bR := bR.keep (gg1.block _ bR.lt (fun e => by injection e with e; omega))
 replace hB := hB.grown gg1 (by omega) (fun q e => by injection e with e; omega)
 have z_2 := gg1.size
 clear gg1
 obtain ⟨A0, k0, c0, rfl, _, _, _⟩ := o0.rd.form
 obtain ⟨A1, k1, c1, rfl, _, _, _⟩ := o1.rd.form
 obtain ⟨A2, k2, c2, rfl, _, _, _⟩ := o2.rd.form
 have bR_z := bR.frozen
 have bR_l := bR.lt
 have bR_0 := bR.c0
 have bR_1 := bR.c1
 have bR_2 := bR.c2
 have bR_3 := bR.c3
 go_upto_region 3 with fail
 clear bR_z bR_l bR_0 bR_1 bR_2 bR_3
 have bX := Box.new w1 #[.int .i64 m1, .slice A0 k0 c0, .slice A1 k1 c1, .slice A2 k2 c2] 30 rfl
 have ga8 := grown_alloc w1 (.cells #[.int .i64 m1, .slice A0 k0 c0, .slice A1 k1 c1, .slice A2 k2 c2] 30)
 have za8 : w1.heap.size + 1 ≤ (w1.alloc (.cells #[.int .i64 m1, .slice A0 k0 c0, .slice A1 k1 c1, .slice A2 k2 c2] 30)).heap.size := by simp
 replace kk1 := kk1.grown0 ga8
 replace h := h.grown ga8 (by omega) (fun q e => by cases e)
 replace o0 := o0.apart ga8 (fun q e => by cases e)
 replace o1 := o1.apart ga8 (fun q e => by cases e)
 replace o2 := o2.apart ga8 (fun q e => by cases e)
 replace bR := bR.keep (ga8.block _ bR.lt (fun e => by cases e))
 replace hB := hB.grown ga8 (by omega) (fun q e => by cases e)
 have z_3 := ga8.size
 clear ga8
 generalize w1.alloc _ = wX at *
 generalize w1.heap.size = gX at *
 have oK := own_empty wX (base := wX.heap.size) 54 3 (Nat.le_refl _)
 have ga9 := grown_alloc wX (.cells #[] 54)
 have za9 : wX.heap.size + 1 ≤ (wX.alloc (.cells #[] 54)).heap.size := by simp
 have bR_z := bR.frozen
 have bR_l := bR.lt
 have bR_0 := bR.c0
 have bR_1 := bR.c1
 have bR_2 := bR.c2
 have bR_3 := bR.c3
 have bX_z := bX.frozen
 have bX_l := bX.lt
 have bX_0 := bX.c0
 have bX_1 := bX.c1
 have bX_2 := bX.c2
 have bX_3 := bX.c3
 go_wp2_with fail
 clear bR_z bR_l bR_0 bR_1 bR_2 bR_3
 clear bX_z bX_l bX_0 bX_1 bX_2 bX_3
 replace kk1 := kk1.grown0 ga9
 replace h := h.grown ga9 (by omega) (fun q e => by cases e)
 replace o0 := o0.apart ga9 (fun q e => by cases e)
 replace o1 := o1.apart ga9 (fun q e => by cases e)
 replace o2 := o2.apart ga9 (fun q e => by cases e)
 replace bR := bR.keep (ga9.block _ bR.lt (fun e => by cases e))
 replace bX := bX.keep (ga9.block _ bX.lt (fun e => by cases e))
 replace hB := hB.grown ga9 (by omega) (fun q e => by cases e)
 have z_4 := ga9.size
 clear ga9
 generalize wX.alloc _ = wA at *
 generalize wX.heap.size = gO at *
 refine (pick_any g _ _ l 10 wA h (by omega) hg kk1 (by omega) (by omega)).mono ?_; rintro q_ w5 ⟨x1, rfl, x1_0, x1_1, gg5, kk5⟩
 clear kk1
 replace h := h.grown gg5 (by omega) (fun q e => by injection e with e; omega)
 replace oK := oK.kept gg5 (.inr (fun e => by have := own_ge oK _ e; omega))
 replace o0 := o0.apart gg5 (fun q e => by injection e with e; omega)
 replace o1 := o1.apart gg5 (fun q e => by injection e with e; omega)
 replace o2 := o2.apart gg5 (fun q e => by injection e with e; omega)
 replace bR := bR.keep (gg5.block _ bR.lt (fun e => by injection e with e; omega))
 replace bX := bX.keep (gg5.block _ bX.lt (fun e => by injection e with e; omega))
 replace hB := hB.grown gg5 (by omega) (fun q e => by injection e with e; omega)
 have z_6 := gg5.size
 clear gg5
 obtain ⟨m, rfl⟩ : ∃ m : Nat, x1 = m := ⟨x1.toNat, by omega⟩
 have hm6 : m < 10 := by omega
 clear x1_0 x1_1
 have bR_z := bR.frozen
 have bR_l := bR.lt
 have bR_0 := bR.c0
 have bR_1 := bR.c1
 have bR_2 := bR.c2
 have bR_3 := bR.c3
 have bX_z := bX.frozen
 have bX_l := bX.lt
 have bX_0 := bX.c0
 have bX_1 := bX.c1
 have bX_2 := bX.c2
 have bX_3 := bX.c3
 go_wp2_with fail
 clear bR_z bR_l bR_0 bR_1 bR_2 bR_3
 clear bX_z bX_l bX_0 bX_1 bX_2 bX_3
 replace o0 := o0.mono (lo' := w0.heap.size) (hi' := gX) (by omega) (by omega)
 replace o1 := o1.mono (lo' := w0.heap.size) (hi' := gX) (by omega) (by omega)
 replace o2 := o2.mono (lo' := w0.heap.size) (hi' := gX) (by omega) (by omega)
 have hgX : g < gX := by omega
 have hgO : gX < gO := by omega
 go_loopw [6, 7] (fun v6 v7 wr => ∃ (i q : Nat) (ls : List Op_), i + q = m ∧ v7 = .int .i64 q ∧ Hid (ls.length = i) ∧ Below w.heap.size w wr ∧ Cur wr g (.slice Ac nc cc) (1000 + 40 * i) ∧ gO + 1 ≤ wr.heap.size ∧ Rd By.cells 1 wr lo hi (.slice Ac nc cc) l ∧ wr.ownsRow gO 54 3 v6 i (ls.flatMap Op_.cells) ∧ Box wr w.heap.size 30 [.int .i64 0, .slice none 0 0, .slice none 0 0, .slice none 0 0] ∧ Box wr gX 30 [.int .i64 m1, .slice A0 k0 c0, .slice A1 k1 c1, .slice A2 k2 c2] ∧ Ow Nm.cells 1 3 wr w0.heap.size gX (.slice A0 k0 c0) t1 ∧ Ow Sl.cells 3 93 wr w0.heap.size gX (.slice A1 k1 c1) l1 ∧ Ow Wt.cells 2 107 wr w0.heap.size gX (.slice A2 k2 c2) lw1) (fun _ v7 _ => (intOf v7).toNat)
 case atStart => exact ⟨0, m, [], by omega, rfl, Lib.hid rfl, hB, kk5.mono (by omega), by omega, h, oK, bR, bX, o0, o1, o2⟩
 case round =>
  clear kk5 hB h oK bR bX o0 o1 o2
  obtain ⟨i, q, ls, hiq, rfl, HL, hB, hc, zw, h, oK, bR, bX, o0, o1, o2⟩ := hrel
  rcases Nat.eq_zero_or_pos q with hq | hq
  ·obtain rfl : i = m := by omega
   subst hq
   have bR_z := bR.frozen
   have bR_l := bR.lt
   have bR_0 := bR.c0
   have bR_1 := bR.c1
   have bR_2 := bR.c2
   have bR_3 := bR.c3
   have bX_z := bX.frozen
   have bX_l := bX.lt
   have bX_0 := bX.c0
   have bX_1 := bX.c1
   have bX_2 := bX.c2
   have bX_3 := bX.c3
   go_wp2_with fail
   clear bR_z bR_l bR_0 bR_1 bR_2 bR_3
   clear bX_z bX_l bX_0 bX_1 bX_2 bX_3
   refine (one_any g _ _ l 24 wr h (by omega) hg hc (by omega) (by omega)).mono ?_; rintro q_ w101 ⟨b2, rfl, gg101, kk101⟩
   clear hc
   replace h := h.grown gg101 (by omega) (fun q e => by injection e with e; omega)
   replace oK := oK.kept gg101 (.inr (fun e => by have := own_ge oK _ e; omega))
   replace o0 := o0.apart gg101 (fun q e => by injection e with e; omega)
   replace o1 := o1.apart gg101 (fun q e => by injection e with e; omega)
   replace o2 := o2.apart gg101 (fun q e => by injection e with e; omega)
   replace bR := bR.keep (gg101.block _ bR.lt (fun e => by injection e with e; omega))
   replace bX := bX.keep (gg101.block _ bX.lt (fun e => by injection e with e; omega))
   replace hB := hB.grown gg101 (by omega) (fun q e => by injection e with e; omega)
   have z_102 := gg101.size
   clear gg101
   cases b2
   ·have bR_z := bR.frozen
    have bR_l := bR.lt
    have bR_0 := bR.c0
    have bR_1 := bR.c1
    have bR_2 := bR.c2
    have bR_3 := bR.c3
    have bX_z := bX.frozen
    have bX_l := bX.lt
    have bX_0 := bX.c0
    have bX_1 := bX.c1
    have bX_2 := bX.c2
    have bX_3 := bX.c3
    go_wp2_with fail
    clear bR_z bR_l bR_0 bR_1 bR_2 bR_3
    clear bX_z bX_l bX_0 bX_1 bX_2 bX_3
    generalize hwz : World.setCell (World.setCell (World.setCell (World.setCell _ _ _) _ _) _ _) _ _ = wz_
    obtain rfl : wz_ = setL w101 (w.heap.size) 0 [.int .i64 m1, .slice A0 k0 c0, .slice A1 k1 c1, .slice A2 k2 c2] := hwz.symm
    clear hwz
    have oR := Ow.of_own Op_.cells_len oK rfl HL.out.symm
    replace hB := setL_below hB [.int .i64 m1, .slice A0 k0 c0, .slice A1 k1 c1, .slice A2 k2 c2] (w.heap.size) 0 (Nat.le_refl _)
    replace o0 := o0.box bR (by decide) 0 [.int .i64 m1, .slice A0 k0 c0, .slice A1 k1 c1, .slice A2 k2 c2]
    replace o1 := o1.box bR (by decide) 0 [.int .i64 m1, .slice A0 k0 c0, .slice A1 k1 c1, .slice A2 k2 c2]
    replace o2 := o2.box bR (by decide) 0 [.int .i64 m1, .slice A0 k0 c0, .slice A1 k1 c1, .slice A2 k2 c2]
    replace oR := oR.box bR (by decide) 0 [.int .i64 m1, .slice A0 k0 c0, .slice A1 k1 c1, .slice A2 k2 c2]
    have zS : (setL w101 (w.heap.size) 0 [.int .i64 m1, .slice A0 k0 c0, .slice A1 k1 c1, .slice A2 k2 c2]).heap.size = w101.heap.size := setL_size _ _ _ _
    replace bR := bR.setAll [.int .i64 m1, .slice A0 k0 c0, .slice A1 k1 c1, .slice A2 k2 c2] rfl
    generalize setL w101 _ 0 _ = wZ at *
    have u0_ := bR.c0
    have u1_ := bR.c1
    have u2_ := bR.c2
    have u3_ := bR.c3
    refine bodyPost_ret (by simp only [results, Tryz.results26]; simp [go_sem, u0_, u1_, u2_, u3_]; rfl) rfl ?_
    exact ⟨_, _, _, _, _, _, _, _, _, rfl, by rw [HL.out]; omega, by omega, by omega, by omega, o0.mono (by omega) (by omega), o1.mono (by omega) (by omega), o2.mono (by omega) (by omega), oR.mono (by omega) (by omega), hB⟩
   ·have bR_z := bR.frozen
    have bR_l := bR.lt
    have bR_0 := bR.c0
    have bR_1 := bR.c1
    have bR_2 := bR.c2
    have bR_3 := bR.c3
    have bX_z := bX.frozen
    have bX_l := bX.lt
    have bX_0 := bX.c0
    have bX_1 := bX.c1
    have bX_2 := bX.c2
    have bX_3 := bX.c3
    go_wp2_with fail
    clear bR_z bR_l bR_0 bR_1 bR_2 bR_3
    clear bX_z bX_l bX_0 bX_1 bX_2 bX_3
    have oR0 := Ow.of_own Op_.cells_len oK rfl HL.out.symm
    obtain ⟨A3, n3, c3, rfl, H3, _, _⟩ := oR0.rd.form
    obtain rfl : n3 = i := by rw [H3.out, HL.out]
    clear H3 oR0
    go_loopw [6] (fun v6 wr => ∃ (i c : Nat) (A : Option Addr) (ls : List Op_), i ≤ 21 ∧ v6 = .slice A i c ∧ Hid (ls.length = i) ∧ Below w.heap.size w wr ∧ Cur wr g (.slice Ac nc cc) (2000 + 4 * i) ∧ gO + 1 ≤ wr.heap.size ∧ Rd By.cells 1 wr lo hi (.slice Ac nc cc) l ∧ wr.ownsRow gO 54 3 v6 i (ls.flatMap Op_.cells) ∧ Box wr w.heap.size 30 [.int .i64 0, .slice none 0 0, .slice none 0 0, .slice none 0 0] ∧ Box wr gX 30 [.int .i64 m1, .slice A0 k0 c0, .slice A1 k1 c1, .slice A2 k2 c2] ∧ Ow Nm.cells 1 3 wr w0.heap.size gX (.slice A0 k0 c0) t1 ∧ Ow Sl.cells 3 93 wr w0.heap.size gX (.slice A1 k1 c1) l1 ∧ Ow Wt.cells 2 107 wr w0.heap.size gX (.slice A2 k2 c2) lw1) (fun v6 _ => 22 - match v6 with | .slice _ n _ => n | _ => 0)
    case atStart => exact ⟨_, _, _, ls, by omega, rfl, HL, hB, kk101.mono (by omega), by omega, h, oK, bR, bX, o0, o1, o2⟩
    case round =>
     clear kk101 hB h oK bR bX o0 o1 o2 HL
     obtain ⟨i, c, A, ls, hi7, rfl, HL, hB, hc, zw, h, oK, bR, bX, o0, o1, o2⟩ := hrel
     have bR_z := bR.frozen
     have bR_l := bR.lt
     have bR_0 := bR.c0
     have bR_1 := bR.c1
     have bR_2 := bR.c2
     have bR_3 := bR.c3
     have bX_z := bX.frozen
     have bX_l := bX.lt
     have bX_0 := bX.c0
     have bX_1 := bX.c1
     have bX_2 := bX.c2
     have bX_3 := bX.c3
     go_wp2_with fail
     clear bR_z bR_l bR_0 bR_1 bR_2 bR_3
     clear bX_z bX_l bX_0 bX_1 bX_2 bX_3
     refine (pick_any g _ _ l 2 wr h (by omega) hg hc (by omega) (by omega)).mono ?_; rintro q_ w301 ⟨x9, rfl, x9_0, x9_1, gg301, kk301⟩
     clear hc
     replace h := h.grown gg301 (by omega) (fun q e => by injection e with e; omega)
     replace oK := oK.kept gg301 (.inr (fun e => by have := own_ge oK _ e; omega))
     replace o0 := o0.apart gg301 (fun q e => by injection e with e; omega)
     replace o1 := o1.apart gg301 (fun q e => by injection e with e; omega)
     replace o2 := o2.apart gg301 (fun q e => by injection e with e; omega)
     replace bR := bR.keep (gg301.block _ bR.lt (fun e => by injection e with e; omega))
     replace bX := bX.keep (gg301.block _ bX.lt (fun e => by injection e with e; omega))
     replace hB := hB.grown gg301 (by omega) (fun q e => by injection e with e; omega)
     have z_302 := gg301.size
     clear gg301
     by_cases hlt : (i : Int) < 20 + x9
     ·have hld : decide ((i : Int) < 20 + x9) = true := decide_eq_true hlt
      have ga8 := grown_alloc w301 (.cells #[.int .i64 3, .int .i64 0, .int .i64 0] 54)
      have za8_ : w301.heap.size + 1 ≤ (w301.alloc (.cells #[.int .i64 3, .int .i64 0, .int .i64 0] 54)).heap.size := by simp
      have oL := oK.alloc (.cells #[.int .i64 3, .int .i64 0, .int .i64 0] 54)
      have bR_z := bR.frozen
      have bR_l := bR.lt
      have bR_0 := bR.c0
      have bR_1 := bR.c1
      have bR_2 := bR.c2
      have bR_3 := bR.c3
      have bX_z := bX.frozen
      have bX_l := bX.lt
      have bX_0 := bX.c0
      have bX_1 := bX.c1
      have bX_2 := bX.c2
      have bX_3 := bX.c3
      go_wp2_with (at_builtin; (refine Op_.app_one rfl _ _ rfl gO (.slice A i c) i _ rfl oL (g := w301.heap.size) (c := 1) ⟨3, 0, 0⟩ rfl (fun j u hu => cell_new _ _ _ rfl (by simpa [Op_.cells] using hu)) (by omega) (by omega) ?_); (intro v8 w8 o8 g8))
      clear bR_z bR_l bR_0 bR_1 bR_2 bR_3
      clear bX_z bX_l bX_0 bX_1 bX_2 bX_3
      replace hB := (hB.grown ga8 (by omega) (fun q e => by cases e)).grown g8 (by omega) (fun q e => by have := own_ge oL _ e; omega)
      replace kk301 := (kk301.grown0 ga8).row g8 (fun b e => by have := own_ge oL _ e; omega)
      replace h := (h.grown ga8 (by omega) (fun q e => by cases e)).grown g8 (by omega) (fun q e => by have := own_ge oL _ e; omega)
      replace o0 := (o0.apart ga8 (fun q e => by cases e)).apart g8 (fun q e => by have := own_ge oL _ e; omega)
      replace o1 := (o1.apart ga8 (fun q e => by cases e)).apart g8 (fun q e => by have := own_ge oL _ e; omega)
      replace o2 := (o2.apart ga8 (fun q e => by cases e)).apart g8 (fun q e => by have := own_ge oL _ e; omega)
      have bR_l := bR.lt
      replace bR := bR.keep (ga8.block _ bR.lt (fun e => by cases e))
      replace bR := bR.keep (g8.block _ bR.lt (fun e => by have := own_ge oL _ e.symm; omega))
      clear bR_l
      have bX_l := bX.lt
      replace bX := bX.keep (ga8.block _ bX.lt (fun e => by cases e))
      replace bX := bX.keep (g8.block _ bX.lt (fun e => by have := own_ge oL _ e.symm; omega))
      clear bX_l
      have z8 := g8.size
      obtain ⟨A8, n8, c8, rfl, H8, _, _⟩ := (Ow.of_own Op_.cells_len o8 (l := ls ++ [⟨3, 0, 0⟩]) (by rw [List.flatMap_append]; simp [Op_.cells]) (by rw [List.length_append, HL.out]; rfl)).rd.form
      obtain rfl : n8 = i + 1 := by rw [H8.out, List.length_append, HL.out]; rfl
      go_roundw
      case rel => exact ⟨i + 1, c8, A8, ls ++ [⟨3, 0, 0⟩], by omega, rfl, Lib.hid (by rw [List.length_append, HL.out]; rfl), hB, kk301.mono (by omega), by omega, h, by rw [List.flatMap_append]; simpa [Op_.cells] using o8, bR, bX, o0, o1, o2⟩
      case measure => simp; omega
     ·have hld : decide ((i : Int) < 20 + x9) = false := decide_eq_false hlt
      have bR_z := bR.frozen
      have bR_l := bR.lt
      have bR_0 := bR.c0
      have bR_1 := bR.c1
      have bR_2 := bR.c2
      have bR_3 := bR.c3
      have bX_z := bX.frozen
      have bX_l := bX.lt
      have bX_0 := bX.c0
      have bX_1 := bX.c1
      have bX_2 := bX.c2
      have bX_3 := bX.c3
      go_wp2_with fail
      clear bR_z bR_l bR_0 bR_1 bR_2 bR_3
      clear bX_z bX_l bX_0 bX_1 bX_2 bX_3
      generalize hwz : World.setCell (World.setCell (World.setCell (World.setCell _ _ _) _ _) _ _) _ _ = wz_
      obtain rfl : wz_ = setL w301 (w.heap.size) 0 [.int .i64 m1, .slice A0 k0 c0, .slice A1 k1 c1, .slice A2 k2 c2] := hwz.symm
      clear hwz
      have oR := Ow.of_own Op_.cells_len oK rfl HL.out.symm
      replace hB := setL_below hB [.int .i64 m1, .slice A0 k0 c0, .slice A1 k1 c1, .slice A2 k2 c2] (w.heap.size) 0 (Nat.le_refl _)
      replace o0 := o0.box bR (by decide) 0 [.int .i64 m1, .slice A0 k0 c0, .slice A1 k1 c1, .slice A2 k2 c2]
      replace o1 := o1.box bR (by decide) 0 [.int .i64 m1, .slice A0 k0 c0, .slice A1 k1 c1, .slice A2 k2 c2]
      replace o2 := o2.box bR (by decide) 0 [.int .i64 m1, .slice A0 k0 c0, .slice A1 k1 c1, .slice A2 k2 c2]
      replace oR := oR.box bR (by decide) 0 [.int .i64 m1, .slice A0 k0 c0, .slice A1 k1 c1, .slice A2 k2 c2]
      have zS : (setL w301 (w.heap.size) 0 [.int .i64 m1, .slice A0 k0 c0, .slice A1 k1 c1, .slice A2 k2 c2]).heap.size = w301.heap.size := setL_size _ _ _ _
      replace bR := bR.setAll [.int .i64 m1, .slice A0 k0 c0, .slice A1 k1 c1, .slice A2 k2 c2] rfl
      generalize setL w301 _ 0 _ = wZ at *
      have u0_ := bR.c0
      have u1_ := bR.c1
      have u2_ := bR.c2
      have u3_ := bR.c3
      refine bodyPost_ret (by simp only [results, Tryz.results26]; simp [go_sem, u0_, u1_, u2_, u3_]; rfl) rfl ?_
      exact ⟨_, _, _, _, _, _, _, _, _, rfl, by rw [HL.out]; omega, by omega, by omega, by omega, o0.mono (by omega) (by omega), o1.mono (by omega) (by omega), o2.mono (by omega) (by omega), oR.mono (by omega) (by omega), hB⟩
  ·obtain ⟨p, rfl⟩ : ∃ p, q = p + 1 := ⟨q - 1, by omega⟩
   have hqd : decide ((0 : Int) < ((p + 1 : Nat) : Int)) = true := decide_eq_true (by omega)
   have bR_z := bR.frozen
   have bR_l := bR.lt
   have bR_0 := bR.c0
   have bR_1 := bR.c1
   have bR_2 := bR.c2
   have bR_3 := bR.c3
   have bX_z := bX.frozen
   have bX_l := bX.lt
   have bX_0 := bX.c0
   have bX_1 := bX.c1
   have bX_2 := bX.c2
   have bX_3 := bX.c3
   go_wp2_with fail
   clear bR_z bR_l bR_0 bR_1 bR_2 bR_3
   clear bX_z bX_l bX_0 bX_1 bX_2 bX_3
   refine (op_any g _ _ l wr h (by omega) hg hc (by omega)).mono ?_; rintro q_ w101 ⟨x2, rfl, gg101, kk101⟩
   clear hc
   replace h := h.grown gg101 (by omega) (fun q e => by injection e with e; omega)
   replace oK := oK.kept gg101 (.inr (fun e => by have := own_ge oK _ e; omega))
   replace o0 := o0.apart gg101 (fun q e => by injection e with e; omega)
   replace o1 := o1.apart gg101 (fun q e => by injection e with e; omega)
   replace o2 := o2.apart gg101 (fun q e => by injection e with e; omega)
   replace bR := bR.keep (gg101.block _ bR.lt (fun e => by injection e with e; omega))
   replace bX := bX.keep (gg101.block _ bX.lt (fun e => by injection e with e; omega))
   replace hB := hB.grown gg101 (by omega) (fun q e => by injection e with e; omega)
   have z_102 := gg101.size
   clear gg101
   unfold Op_.val
   have ga8 := grown_alloc w101 (.cells #[.int .i64 x2.kind, .int .i64 x2.irq, .int .i64 x2.prio] 54)
   have za8_ : w101.heap.size + 1 ≤ (w101.alloc (.cells #[.int .i64 x2.kind, .int .i64 x2.irq, .int .i64 x2.prio] 54)).heap.size := by simp
   have oL := oK.alloc (.cells #[.int .i64 x2.kind, .int .i64 x2.irq, .int .i64 x2.prio] 54)
   have bR_z := bR.frozen
   have bR_l := bR.lt
   have bR_0 := bR.c0
   have bR_1 := bR.c1
   have bR_2 := bR.c2
   have bR_3 := bR.c3
   have bX_z := bX.frozen
   have bX_l := bX.lt
   have bX_0 := bX.c0
   have bX_1 := bX.c1
   have bX_2 := bX.c2
   have bX_3 := bX.c3
   go_wp2_with (at_builtin; (refine Op_.app_one rfl _ _ rfl gO u6 i _ rfl oL (g := w101.heap.size) (c := 1) x2 rfl (fun j u hu => cell_new _ _ _ rfl (by simpa [Op_.cells] using hu)) (by omega) (by omega) ?_); (intro v8 w8 o8 g8))
   clear bR_z bR_l bR_0 bR_1 bR_2 bR_3
   clear bX_z bX_l bX_0 bX_1 bX_2 bX_3
   replace hB := (hB.grown ga8 (by omega) (fun q e => by cases e)).grown g8 (by omega) (fun q e => by have := own_ge oL _ e; omega)
   replace kk101 := (kk101.grown0 ga8).row g8 (fun b e => by have := own_ge oL _ e; omega)
   replace h := (h.grown ga8 (by omega) (fun q e => by cases e)).grown g8 (by omega) (fun q e => by have := own_ge oL _ e; omega)
   replace o0 := (o0.apart ga8 (fun q e => by cases e)).apart g8 (fun q e => by have := own_ge oL _ e; omega)
   replace o1 := (o1.apart ga8 (fun q e => by cases e)).apart g8 (fun q e => by have := own_ge oL _ e; omega)
   replace o2 := (o2.apart ga8 (fun q e => by cases e)).apart g8 (fun q e => by have := own_ge oL _ e; omega)
   have bR_l := bR.lt
   replace bR := bR.keep (ga8.block _ bR.lt (fun e => by cases e))
   replace bR := bR.keep (g8.block _ bR.lt (fun e => by have := own_ge oL _ e.symm; omega))
   clear bR_l
   have bX_l := bX.lt
   replace bX := bX.keep (ga8.block _ bX.lt (fun e => by cases e))
   replace bX := bX.keep (g8.block _ bX.lt (fun e => by have := own_ge oL _ e.symm; omega))
   clear bX_l
   have z8 := g8.size
   go_roundw
   case rel => exact ⟨i + 1, p, ls ++ [x2], by omega, by go_num, Lib.hid (by rw [List.length_append, HL.out]; rfl), hB, kk101.mono (by omega), by omega, h, by rw [List.flatMap_append]; simpa [Op_.cells] using o8, bR, bX, o0, o1, o2⟩
   case measure => simp [intOf]

end Go.Proofs.YtndfmkbpdoohfaaGreat

/- A law's own comparison of two lists that read the same: it says so. No condition. -/
namespace Go.Proofs.YtndfmkbpdoohfaaGreat
open Go.RowKit Go.ChangeShapes Go.WideShapes Go.Deep

theorem Sl.v_same (v1 v2 : Value) (l : List Sl) (w : World) {lo1 hi1 lo2 hi2 : Nat} (h1 : Rd Sl.cells 3 w lo1 hi1 v1 l) (h2 : Rd Sl.cells 3 w lo2 hi2 v2 l) (hh1 : hi1 ≤ w.heap.size) (hh2 : hi2 ≤ w.heap.size) :
  Calls Tryz.prog 78 #[v1, v2] w fun e w' => e = .returned (.bool true) ∧ Below w.heap.size w w' := by
 obtain ⟨A, n, c, rfl, H, hc, hm⟩ := h1.form
 obtain ⟨A2, n2, c2, rfl, H2, hc2, hm2⟩ := h2.form
 obtain rfl : n = n2 := by rw [H.out, H2.out]
 have hnd : ((n : Int) != (n : Int)) = false := by simp
 clear H H2
 go_enter Tryz.func78, Tryz.ntmps78
 go_wp2_with fail
 go_loopw [5] (fun i wr => ∃ k : Nat, k ≤ n ∧ i = .int .i64 k ∧ Below w.heap.size w wr) (fun i _ => n - (intOf i).toNat)
 case atStart => exact ⟨0, Nat.zero_le _, rfl, Below.refl _ _⟩
 case round =>
  obtain ⟨k, hk, rfl, hb⟩ := hrel
  by_cases hlt : k < n
  ·obtain ⟨b, off, t, rfl, hx, _, _, f0, f1, f2⟩ := Sl.get h1 hlt hb hh1
   obtain ⟨b2, off2, t2, rfl, hy, _, _, g0, g1, g2⟩ := Sl.get h2 hlt hb hh2
   obtain rfl := Option.some.inj (hx.out.symm.trans hy.out)
   have hki : (k : Int) < (n : Int) := by omega
   clear hx hy
   go_wp2_with fail
   go_quiet (fail)
   go_wp2_with fail
   go_roundw
   case rel => exact ⟨k + 1, by omega, by go_num, below_drewN hb _⟩
   case measure => simp [intOf]; omega
  ·go_wp2_with fail
   go_ret
   exact ⟨rfl, hb⟩

end Go.Proofs.YtndfmkbpdoohfaaGreat

/- A law's own comparison of two lists that read the same: it says so. No condition. -/
namespace Go.Proofs.YtndfmkbpdoohfaaGreat
open Go.RowKit Go.ChangeShapes Go.WideShapes Go.Deep

theorem Wt.v_same (v1 v2 : Value) (l : List Wt) (w : World) {lo1 hi1 lo2 hi2 : Nat} (h1 : Rd Wt.cells 2 w lo1 hi1 v1 l) (h2 : Rd Wt.cells 2 w lo2 hi2 v2 l) (hh1 : hi1 ≤ w.heap.size) (hh2 : hi2 ≤ w.heap.size) :
  Calls Tryz.prog 79 #[v1, v2] w fun e w' => e = .returned (.bool true) ∧ Below w.heap.size w w' := by
 obtain ⟨A, n, c, rfl, H, hc, hm⟩ := h1.form
 obtain ⟨A2, n2, c2, rfl, H2, hc2, hm2⟩ := h2.form
 obtain rfl : n = n2 := by rw [H.out, H2.out]
 have hnd : ((n : Int) != (n : Int)) = false := by simp
 clear H H2
 go_enter Tryz.func79, Tryz.ntmps79
 go_wp2_with fail
 go_loopw [5] (fun i wr => ∃ k : Nat, k ≤ n ∧ i = .int .i64 k ∧ Below w.heap.size w wr) (fun i _ => n - (intOf i).toNat)
 case atStart => exact ⟨0, Nat.zero_le _, rfl, Below.refl _ _⟩
 case round =>
  obtain ⟨k, hk, rfl, hb⟩ := hrel
  by_cases hlt : k < n
  ·obtain ⟨b, off, t, rfl, hx, _, _, f0, f1⟩ := Wt.get h1 hlt hb hh1
   obtain ⟨b2, off2, t2, rfl, hy, _, _, g0, g1⟩ := Wt.get h2 hlt hb hh2
   obtain rfl := Option.some.inj (hx.out.symm.trans hy.out)
   have hki : (k : Int) < (n : Int) := by omega
   clear hx hy
   go_wp2_with fail
   go_quiet (fail)
   go_wp2_with fail
   go_roundw
   case rel => exact ⟨k + 1, by omega, by go_num, below_drewN hb _⟩
   case measure => simp [intOf]; omega
  ·go_wp2_with fail
   go_ret
   exact ⟨rfl, hb⟩

end Go.Proofs.YtndfmkbpdoohfaaGreat

/- The plain laws' own helpers over numbers: whether two lists that read the same are the same, whether a number is in a list, whether a code is long. No condition. -/
namespace Go.Proofs.YtndfmkbpdoohfaaGreat
open Go.RowKit Go.ChangeShapes Go.WideShapes Go.Deep

theorem vInts_same (v1 v2 : Value) (l : List Int) (w : World) {lo1 hi1 lo2 hi2 : Nat} (h1 : Rd Nm.cells 1 w lo1 hi1 v1 l) (h2 : Rd Nm.cells 1 w lo2 hi2 v2 l) (hh1 : hi1 ≤ w.heap.size) (hh2 : hi2 ≤ w.heap.size) :
  Calls Tryz.prog 17 #[v1, v2] w fun e w' => e = .returned (.bool true) ∧ Below w.heap.size w w' := by
 obtain ⟨A, n, c, rfl, H, hc, hm⟩ := h1.form
 obtain ⟨A2, n2, c2, rfl, H2, hc2, hm2⟩ := h2.form
 obtain rfl : n = n2 := by rw [H.out, H2.out]
 have hnd : ((n : Int) != (n : Int)) = false := by simp
 clear H H2
 go_enter Tryz.func17, Tryz.ntmps17
 go_wp2_with fail
 go_loopw [5] (fun i wr => ∃ k : Nat, k ≤ n ∧ i = .int .i64 k ∧ Below w.heap.size w wr) (fun i _ => n - (intOf i).toNat)
 case atStart => exact ⟨0, Nat.zero_le _, rfl, Below.refl _ _⟩
 case round =>
  obtain ⟨k, hk, rfl, hb⟩ := hrel
  by_cases hlt : k < n
  ·obtain ⟨b, off, t, rfl, hx, _, _, f0⟩ := Nm.get h1 hlt hb hh1
   obtain ⟨b2, off2, t2, rfl, hy, _, _, g0⟩ := Nm.get h2 hlt hb hh2
   obtain rfl := Option.some.inj (hx.out.symm.trans hy.out)
   have hki : (k : Int) < (n : Int) := by omega
   clear hx hy
   go_wp2_with fail
   go_quiet (fail)
   go_wp2_with fail
   go_roundw
   case rel => exact ⟨k + 1, by omega, by go_num, below_drewN hb _⟩
   case measure => simp [intOf]; omega
  ·go_wp2_with fail
   go_ret
   exact ⟨rfl, hb⟩
theorem vBig_any (v : Value) (l : List UInt8) (w : World) {lo hi : Nat} (h : Rd By.cells 1 w lo hi v l) : Calls Tryz.prog 5 #[v] w fun e w' => e = .returned (.bool (decide (65536 < l.length))) ∧ w = w' := by
 obtain ⟨A, n, c, rfl, H, hc, hm⟩ := h.form
 have HN := H
 go_enter Tryz.func5, Tryz.ntmps5
 go_wp2_with fail
 go_ret
 exact ⟨ret_bool (by rw [← HN.out]; apply decide_eq_decide.2; omega), rfl⟩

end Go.Proofs.YtndfmkbpdoohfaaGreat

/- The plain laws' comparisons of queues and interfaces that read the same: they say so. No condition. -/
namespace Go.Proofs.YtndfmkbpdoohfaaGreat
open Go.RowKit Go.ChangeShapes Go.WideShapes Go.Deep

set_option maxHeartbeats 1000000 in
theorem vQueue_same (a1 a2 b1 b2 : Value) (ls : List Sl) (lw : List Wt) (w : World) {l1 h1 l2 h2 l3 h3 l4 h4 : Nat} (k1 : Rd Sl.cells 3 w l1 h1 a1 ls) (k2 : Rd Wt.cells 2 w l2 h2 a2 lw) (k3 : Rd Sl.cells 3 w l3 h3 b1 ls) (k4 : Rd Wt.cells 2 w l4 h4 b2 lw)
  (z1 : h1 ≤ w.heap.size) (z2 : h2 ≤ w.heap.size) (z3 : h3 ≤ w.heap.size) (z4 : h4 ≤ w.heap.size) :
  Calls Tryz.prog 37 #[.agg #[a1, a2], .agg #[b1, b2]] w fun e w' => e = .returned (.bool true) ∧ Below w.heap.size w w' := by
 have b0 : Below w.heap.size w ((w.alloc (.cells #[a1, a2] 28)).alloc (.cells #[b1, b2] 28)) := ((Below.refl w.heap.size w).alloc (Nat.le_refl _) _).alloc (by simp) _
 have z0 : ((w.alloc (.cells #[a1, a2] 28)).alloc (.cells #[b1, b2] 28)).heap.size = w.heap.size + 2 := by simp
 have e0 : ((w.alloc (.cells #[a1, a2] 28)).alloc (.cells #[b1, b2] 28)).cell? ⟨w.heap.size, 1, none⟩ = some a2 := by simp
 have e1 : ((w.alloc (.cells #[a1, a2] 28)).alloc (.cells #[b1, b2] 28)).cell? ⟨w.heap.size + 1, 1, none⟩ = some b2 := by simp
 have c1 := Sl.v_same a1 b1 ls _ (k1.below b0 z1) (k3.below b0 z3) (by omega) (by omega)
 have k2' := k2.below b0 z2
 have k4' := k4.below b0 z4
 clear k1 k2 k3 k4
 go_enter Tryz.func37, Tryz.ntmps37
 go_wp2_with fail
 generalize (w.alloc _).alloc _ = w0 at *
 refine c1.mono ?_; rintro e w1 ⟨rfl, b1⟩
 replace e0 := (b1.cell (p := ⟨w.heap.size, 1, none⟩) (by show w.heap.size < _; omega)).trans e0
 replace e1 := (b1.cell (p := ⟨w.heap.size + 1, 1, none⟩) (by show w.heap.size + 1 < _; omega)).trans e1
 have zz := b1.size
 have c2 := Wt.v_same a2 b2 lw w1 (k2'.below b1 (by omega)) (k4'.below b1 (by omega)) (by omega) (by omega)
 go_wp2_with fail
 refine c2.mono ?_; rintro e w2 ⟨rfl, b2⟩
 go_wp2_with fail
 go_ret
 exact ⟨rfl, b0.trans ((b1.mono (by omega)).trans (b2.mono (by omega)))⟩

set_option maxHeartbeats 2000000 in
theorem vFace_same (m : Int) (a0 a1 a2 b0 b1 b2 : Value) (st : List Int) (ls : List Sl) (lw : List Wt) (w : World) {l0 h0 l1 h1 l2 h2 l3 h3 l4 h4 l5 h5 : Nat} (k0 : Rd Nm.cells 1 w l0 h0 a0 st) (k1 : Rd Sl.cells 3 w l1 h1 a1 ls) (k2 : Rd Wt.cells 2 w l2 h2 a2 lw) (k3 : Rd Nm.cells 1 w l3 h3 b0 st) (k4 : Rd Sl.cells 3 w l4 h4 b1 ls) (k5 : Rd Wt.cells 2 w l5 h5 b2 lw)
  (q0 : h0 ≤ w.heap.size) (q1 : h1 ≤ w.heap.size) (q2 : h2 ≤ w.heap.size) (q3 : h3 ≤ w.heap.size) (q4 : h4 ≤ w.heap.size) (q5 : h5 ≤ w.heap.size) :
  Calls Tryz.prog 9 #[.agg #[.int .i64 m, a0, a1, a2], .agg #[.int .i64 m, b0, b1, b2]] w fun e w' => e = .returned (.bool true) ∧ Below w.heap.size w w' := by
 have hB : Below w.heap.size w ((w.alloc (.cells #[.int .i64 m, a0, a1, a2] 30)).alloc (.cells #[.int .i64 m, b0, b1, b2] 30)) := ((Below.refl w.heap.size w).alloc (Nat.le_refl _) _).alloc (by simp) _
 have z0 : ((w.alloc (.cells #[.int .i64 m, a0, a1, a2] 30)).alloc (.cells #[.int .i64 m, b0, b1, b2] 30)).heap.size = w.heap.size + 2 := by simp
 have ba := Box.new w #[.int .i64 m, a0, a1, a2] 30 rfl
 have bb := Box.new (g := w.heap.size + 1) (w.alloc (.cells #[.int .i64 m, a0, a1, a2] 30)) #[.int .i64 m, b0, b1, b2] 30 (by simp)
 replace ba := ba.below ((Below.refl _ (w.alloc (.cells #[.int .i64 m, a0, a1, a2] 30))).alloc (Nat.le_refl _) (.cells #[.int .i64 m, b0, b1, b2] 30)) ba.lt
 replace k0 := k0.below hB q0
 replace k1 := k1.below hB q1
 replace k2 := k2.below hB q2
 replace k3 := k3.below hB q3
 replace k4 := k4.below hB q4
 replace k5 := k5.below hB q5
 have hmd : (m != m) = false := by simp
 generalize hwA : (w.alloc (.cells #[.int .i64 m, a0, a1, a2] 30)).alloc (.cells #[.int .i64 m, b0, b1, b2] 30) = wA at *
 go_enter Tryz.func9, Tryz.ntmps9
 have ba_0 := ba.c0
 have ba_1 := ba.c1
 have ba_2 := ba.c2
 have ba_3 := ba.c3
 have ba_z := ba.frozen
 have ba_l := ba.lt
 have bb_0 := bb.c0
 have bb_1 := bb.c1
 have bb_2 := bb.c2
 have bb_3 := bb.c3
 have bb_z := bb.frozen
 have bb_l := bb.lt
 go_wp2_with fail
 clear hwA
 clear ba_0 ba_1 ba_2 ba_3 ba_z ba_l bb_0 bb_1 bb_2 bb_3 bb_z bb_l
 refine (vInts_same _ _ st wA k0 k3 (by omega) (by omega)).mono ?_; rintro q_ w1 ⟨rfl, b_1⟩
 replace ba := ba.below b_1 ba.lt
 replace bb := bb.below b_1 bb.lt
 replace k0 := k0.below b_1 (by omega)
 replace k1 := k1.below b_1 (by omega)
 replace k2 := k2.below b_1 (by omega)
 replace k3 := k3.below b_1 (by omega)
 replace k4 := k4.below b_1 (by omega)
 replace k5 := k5.below b_1 (by omega)
 have z_2 := b_1.size
 replace hB := hB.trans (b_1.mono (by omega))
 clear b_1
 have ba_0 := ba.c0
 have ba_1 := ba.c1
 have ba_2 := ba.c2
 have ba_3 := ba.c3
 have ba_z := ba.frozen
 have ba_l := ba.lt
 have bb_0 := bb.c0
 have bb_1 := bb.c1
 have bb_2 := bb.c2
 have bb_3 := bb.c3
 have bb_z := bb.frozen
 have bb_l := bb.lt
 go_wp2_with fail
 clear ba_0 ba_1 ba_2 ba_3 ba_z ba_l bb_0 bb_1 bb_2 bb_3 bb_z bb_l
 refine (vQueue_same _ _ _ _ ls lw w1 k1 k2 k4 k5 (by omega) (by omega) (by omega) (by omega)).mono ?_; rintro q_ w3 ⟨rfl, b_3⟩
 replace ba := ba.below b_3 ba.lt
 replace bb := bb.below b_3 bb.lt
 replace k0 := k0.below b_3 (by omega)
 replace k1 := k1.below b_3 (by omega)
 replace k2 := k2.below b_3 (by omega)
 replace k3 := k3.below b_3 (by omega)
 replace k4 := k4.below b_3 (by omega)
 replace k5 := k5.below b_3 (by omega)
 have z_4 := b_3.size
 replace hB := hB.trans (b_3.mono (by omega))
 clear b_3
 have ba_0 := ba.c0
 have ba_1 := ba.c1
 have ba_2 := ba.c2
 have ba_3 := ba.c3
 have ba_z := ba.frozen
 have ba_l := ba.lt
 have bb_0 := bb.c0
 have bb_1 := bb.c1
 have bb_2 := bb.c2
 have bb_3 := bb.c3
 have bb_z := bb.frozen
 have bb_l := bb.lt
 go_wp2_with fail
 clear ba_0 ba_1 ba_2 ba_3 ba_z ba_l bb_0 bb_1 bb_2 bb_3 bb_z bb_l
 go_ret
 exact ⟨rfl, hB⟩

end Go.Proofs.YtndfmkbpdoohfaaGreat

/- Taking from an interface, the public functions, in the program and in the reference. Condition: at most 1048576 numbers on the stack and waiters. -/
namespace Go.Proofs.YtndfmkbpdoohfaaGreat
open Go.RowKit Go.ChangeShapes Go.WideShapes Go.Deep

def Fa.ttOk (m : Int) (st : List Int) (ls : List Sl) (lw : List Wt) : Bool := Fa.good m st ls lw && Sl.tkOk ls (minI m (Fa.run st ls))
def Fa.ttM (m : Int) (st : List Int) (ls : List Sl) (lw : List Wt) : Int := if Fa.ttOk m st ls lw then m else 0
def Fa.ttT (m : Int) (st : List Int) (ls : List Sl) (lw : List Wt) : List Int := if Fa.ttOk m st ls lw then st ++ [Sl.tkI ls] else []
def Fa.ttS (m : Int) (st : List Int) (ls : List Sl) (lw : List Wt) : List Sl := if Fa.ttOk m st ls lw then Sl.tkS ls else []
def Fa.ttW (m : Int) (st : List Int) (ls : List Sl) (lw : List Wt) : List Wt := if Fa.ttOk m st ls lw then lw else []
def Fa.ttV (m : Int) (st : List Int) (ls : List Sl) (lw : List Wt) : Int := if Fa.ttOk m st ls lw then Sl.tkI ls else 0
theorem Fa.tt_no {m : Int} {st : List Int} {ls : List Sl} {lw : List Wt} (h : Fa.ttOk m st ls lw = false) : Fa.ttOk m st ls lw = false ∧ Fa.ttM m st ls lw = 0 ∧ Fa.ttT m st ls lw = [] ∧ Fa.ttS m st ls lw = [] ∧ Fa.ttW m st ls lw = [] ∧ Fa.ttV m st ls lw = 0 := by simp [Fa.ttM, Fa.ttT, Fa.ttS, Fa.ttW, Fa.ttV, h]
theorem Fa.tt_yes {m : Int} {st : List Int} {ls : List Sl} {lw : List Wt} (h : Fa.ttOk m st ls lw = true) : Fa.ttOk m st ls lw = true ∧ Fa.ttM m st ls lw = m ∧ Fa.ttT m st ls lw = st ++ [Sl.tkI ls] ∧ Fa.ttS m st ls lw = Sl.tkS ls ∧ Fa.ttW m st ls lw = lw ∧ Fa.ttV m st ls lw = Sl.tkI ls := by simp [Fa.ttM, Fa.ttT, Fa.ttS, Fa.ttW, Fa.ttV, h]

set_option maxHeartbeats 2000000 in
theorem implTakeIrq_any (m : Int) (vt vs vw : Value) (st : List Int) (ls : List Sl) (lw : List Wt) (w : World) {lo hi lo2 hi2 lo3 hi3 : Nat} (h0 : Rd Nm.cells 1 w lo3 hi3 vt st) (h : Rd Sl.cells 3 w lo hi vs ls) (h2 : Rd Wt.cells 2 w lo2 hi2 vw lw) (hh0 : hi3 ≤ w.heap.size) (hh : hi ≤ w.heap.size) (hh2 : hi2 ≤ w.heap.size) (hl : st.length ≤ 1048576) (hl2 : lw.length ≤ 1048576) :
  Calls Tryz.prog 7 #[.agg #[.int .i64 m, vt, vs, vw]] w fun e w' => ∃ v0 v1 v2, e = .returned (.tuple #[.agg #[.int .i64 (Fa.ttM m st ls lw), v0, v1, v2], .int .i64 (Fa.ttV m st ls lw), .bool (Fa.ttOk m st ls lw)]) ∧ Ow Nm.cells 1 3 w' w.heap.size w'.heap.size v0 (Fa.ttT m st ls lw) ∧ Ow Sl.cells 3 93 w' w.heap.size w'.heap.size v1 (Fa.ttS m st ls lw) ∧ Ow Wt.cells 2 107 w' w.heap.size w'.heap.size v2 (Fa.ttW m st ls lw) ∧ Below w.heap.size w w' := by
 have b0 : Below w.heap.size w ((w.alloc (.cells #[.int .i64 m, vt, vs, vw] 30)).alloc (.cells #[.int .i64 0, .slice none 0 0, .slice none 0 0, .slice none 0 0] 30)) := ((Below.refl w.heap.size w).alloc (Nat.le_refl _) _).alloc (by simp) _
 have z0 : ((w.alloc (.cells #[.int .i64 m, vt, vs, vw] 30)).alloc (.cells #[.int .i64 0, .slice none 0 0, .slice none 0 0, .slice none 0 0] 30)).heap.size = w.heap.size + 2 := by simp
 have bx := Box.new w #[.int .i64 m, vt, vs, vw] 30 rfl
 have bR := Box.new (g := w.heap.size + 1) (w.alloc (.cells #[.int .i64 m, vt, vs, vw] 30)) #[.int .i64 0, .slice none 0 0, .slice none 0 0, .slice none 0 0] 30 (by simp)
 replace bx := bx.below ((Below.refl _ (w.alloc (.cells #[.int .i64 m, vt, vs, vw] 30))).alloc (Nat.le_refl _) (.cells #[.int .i64 0, .slice none 0 0, .slice none 0 0, .slice none 0 0] 30)) bx.lt
 have ht := h0.below b0 hh0
 have hs := h.below b0 hh
 have hw := h2.below b0 hh2
 have hv0_ := h0.form
 have hv_ := h.form
 have hv2_ := h2.form
 clear h0 h h2
 generalize hwA : (w.alloc (.cells #[.int .i64 m, vt, vs, vw] 30)).alloc (.cells #[.int .i64 0, .slice none 0 0, .slice none 0 0, .slice none 0 0] 30) = wA at *
 obtain ⟨At, nt, dt, rfl, _, _, _⟩ := hv0_
 obtain ⟨A0, n0, d0, rfl, _, _, _⟩ := hv_
 obtain ⟨A1, n1, d1, rfl, _, _, _⟩ := hv2_
 have c1 := implIsInterface_any m _ _ _ st ls lw wA ht hs hw (by omega) (by omega) (by omega) hl
 cases hg : Fa.good m st ls lw
 ·have HF := Lib.hid (Fa.tt_no (m := m) (st := st) (ls := ls) (lw := lw) (by simp [Fa.ttOk, hg]))
  rw [hg] at c1
  clear hg
  go_enter Tryz.func7, Tryz.ntmps7
  have bx_0 := bx.c0
  have bx_1 := bx.c1
  have bx_2 := bx.c2
  have bx_3 := bx.c3
  have bx_z := bx.frozen
  have bx_l := bx.lt
  have bR_0 := bR.c0
  have bR_1 := bR.c1
  have bR_2 := bR.c2
  have bR_3 := bR.c3
  have bR_z := bR.frozen
  have bR_l := bR.lt
  go_wp2_with fail
  clear hwA
  clear bx_0 bx_1 bx_2 bx_3 bx_z bx_l bR_0 bR_1 bR_2 bR_3 bR_z bR_l
  refine (c1).mono ?_; rintro q_ w1 ⟨rfl, b_1⟩
  replace bx := bx.below b_1 bx.lt
  replace bR := bR.below b_1 bR.lt
  replace ht := ht.below b_1 (by omega)
  replace hs := hs.below b_1 (by omega)
  replace hw := hw.below b_1 (by omega)
  have z_2 := b_1.size
  replace b0 := b0.trans (b_1.mono (by omega))
  clear b_1
  have bx_0 := bx.c0
  have bx_1 := bx.c1
  have bx_2 := bx.c2
  have bx_3 := bx.c3
  have bx_z := bx.frozen
  have bx_l := bx.lt
  have bR_0 := bR.c0
  have bR_1 := bR.c1
  have bR_2 := bR.c2
  have bR_3 := bR.c3
  have bR_z := bR.frozen
  have bR_l := bR.lt
  go_wp2_with fail
  clear bx_0 bx_1 bx_2 bx_3 bx_z bx_l bR_0 bR_1 bR_2 bR_3 bR_z bR_l
  generalize hwz : World.setCell (World.setCell (World.setCell (World.setCell _ _ _) _ _) _ _) _ _ = wz_
  obtain rfl : wz_ = setL w1 (w.heap.size + 1) 0 [.int .i64 0, .slice none 0 0, .slice none 0 0, .slice none 0 0] := hwz.symm
  clear hwz
  replace bx := bx.other (b := w.heap.size + 1) (by omega) 0 [.int .i64 0, .slice none 0 0, .slice none 0 0, .slice none 0 0]
  replace ht := ht.away (g := w.heap.size + 1) (by omega) 0 [.int .i64 0, .slice none 0 0, .slice none 0 0, .slice none 0 0]
  replace hs := hs.away (g := w.heap.size + 1) (by omega) 0 [.int .i64 0, .slice none 0 0, .slice none 0 0, .slice none 0 0]
  replace hw := hw.away (g := w.heap.size + 1) (by omega) 0 [.int .i64 0, .slice none 0 0, .slice none 0 0, .slice none 0 0]
  replace b0 := setL_below b0 [.int .i64 0, .slice none 0 0, .slice none 0 0, .slice none 0 0] (w.heap.size + 1) 0 (by omega)
  have zs_3 : (setL w1 (w.heap.size + 1) 0 [.int .i64 0, .slice none 0 0, .slice none 0 0, .slice none 0 0]).heap.size = w1.heap.size := setL_size _ _ _ _
  replace bR := bR.setAll [.int .i64 0, .slice none 0 0, .slice none 0 0, .slice none 0 0] rfl
  generalize setL w1 _ 0 _ = w3 at *
  have u0_ := bR.c0
  have u1_ := bR.c1
  have u2_ := bR.c2
  have u3_ := bR.c3
  refine bodyPost_ret (by simp only [results, Tryz.results7]; simp [go_sem, u0_, u1_, u2_, u3_]; rfl) rfl ?_
  exact ⟨_, _, _, by rw [HF.out.1, HF.out.2.1, HF.out.2.2.2.2.2], by rw [HF.out.2.2.1]; exact Ow.nil_, by rw [HF.out.2.2.2.1]; exact Ow.nil_, by rw [HF.out.2.2.2.2.1]; exact Ow.nil_, b0⟩
 ·have HX := Lib.hid (Fa.slots hg)
  have HG := Lib.hid (Fa.good_sl hg)
  cases hk : Sl.tkOk ls (minI m (Fa.run st ls))
  ·have HF := Lib.hid (Fa.tt_no (m := m) (st := st) (ls := ls) (lw := lw) (by simp [Fa.ttOk, hg, hk]))
   have HK := Lib.hid (show Fa.tkM m ls (minI m (Fa.run st ls)) = 0 ∧ Fa.tkU st ls (minI m (Fa.run st ls)) = [] ∧ Sl.tkR ls (minI m (Fa.run st ls)) = [] ∧ Qu.tkK ls (minI m (Fa.run st ls)) lw = [] ∧ Sl.tkV ls (minI m (Fa.run st ls)) = 0 ∧ Sl.tkOk ls (minI m (Fa.run st ls)) = false from by simp [Fa.tkM, Fa.tkU, Sl.tkR, Qu.tkK, Sl.tkV, hk])
   rw [hg] at c1
   clear hg hk
   go_enter Tryz.func7, Tryz.ntmps7
   have bx_0 := bx.c0
   have bx_1 := bx.c1
   have bx_2 := bx.c2
   have bx_3 := bx.c3
   have bx_z := bx.frozen
   have bx_l := bx.lt
   have bR_0 := bR.c0
   have bR_1 := bR.c1
   have bR_2 := bR.c2
   have bR_3 := bR.c3
   have bR_z := bR.frozen
   have bR_l := bR.lt
   go_wp2_with fail
   clear hwA
   clear bx_0 bx_1 bx_2 bx_3 bx_z bx_l bR_0 bR_1 bR_2 bR_3 bR_z bR_l
   refine (c1).mono ?_; rintro q_ w1 ⟨rfl, b_1⟩
   replace bx := bx.below b_1 bx.lt
   replace bR := bR.below b_1 bR.lt
   replace ht := ht.below b_1 (by omega)
   replace hs := hs.below b_1 (by omega)
   replace hw := hw.below b_1 (by omega)
   have z_2 := b_1.size
   replace b0 := b0.trans (b_1.mono (by omega))
   clear b_1
   have bx_0 := bx.c0
   have bx_1 := bx.c1
   have bx_2 := bx.c2
   have bx_3 := bx.c3
   have bx_z := bx.frozen
   have bx_l := bx.lt
   have bR_0 := bR.c0
   have bR_1 := bR.c1
   have bR_2 := bR.c2
   have bR_3 := bR.c3
   have bR_z := bR.frozen
   have bR_l := bR.lt
   go_wp2_with fail
   clear bx_0 bx_1 bx_2 bx_3 bx_z bx_l bR_0 bR_1 bR_2 bR_3 bR_z bR_l
   have c2 := implTakeF_in m _ _ _ st ls lw w1 ht hs hw (by omega) (by omega) (by omega) HG.out HX.out hl hl2
   rw [HK.out.1, HK.out.2.1, HK.out.2.2.1, HK.out.2.2.2.1, HK.out.2.2.2.2.1, HK.out.2.2.2.2.2] at c2
   refine (c2).mono ?_; rintro q_ w3 ⟨v3, v4, v5, rfl, o3, o4, o5, b_3⟩
   replace bx := bx.below b_3 bx.lt
   replace bR := bR.below b_3 bR.lt
   replace ht := ht.below b_3 (by omega)
   replace hs := hs.below b_3 (by omega)
   replace hw := hw.below b_3 (by omega)
   have z_4 := b_3.size
   replace b0 := b0.trans (b_3.mono (by omega))
   clear b_3
   obtain ⟨A3, n3, d3, rfl, _, _, _⟩ := o3.rd.form
   obtain ⟨A4, n4, d4, rfl, _, _, _⟩ := o4.rd.form
   obtain ⟨A5, n5, d5, rfl, _, _, _⟩ := o5.rd.form
   have bx_0 := bx.c0
   have bx_1 := bx.c1
   have bx_2 := bx.c2
   have bx_3 := bx.c3
   have bx_z := bx.frozen
   have bx_l := bx.lt
   have bR_0 := bR.c0
   have bR_1 := bR.c1
   have bR_2 := bR.c2
   have bR_3 := bR.c3
   have bR_z := bR.frozen
   have bR_l := bR.lt
   go_wp2_with fail
   clear bx_0 bx_1 bx_2 bx_3 bx_z bx_l bR_0 bR_1 bR_2 bR_3 bR_z bR_l
   generalize hwz : World.setCell (World.setCell (World.setCell (World.setCell _ _ _) _ _) _ _) _ _ = wz_
   obtain rfl : wz_ = setL w3 (w.heap.size + 1) 0 [.int .i64 0, .slice A3 n3 d3, .slice A4 n4 d4, .slice A5 n5 d5] := hwz.symm
   clear hwz
   replace bx := bx.other (b := w.heap.size + 1) (by omega) 0 [.int .i64 0, .slice A3 n3 d3, .slice A4 n4 d4, .slice A5 n5 d5]
   replace ht := ht.away (g := w.heap.size + 1) (by omega) 0 [.int .i64 0, .slice A3 n3 d3, .slice A4 n4 d4, .slice A5 n5 d5]
   replace hs := hs.away (g := w.heap.size + 1) (by omega) 0 [.int .i64 0, .slice A3 n3 d3, .slice A4 n4 d4, .slice A5 n5 d5]
   replace hw := hw.away (g := w.heap.size + 1) (by omega) 0 [.int .i64 0, .slice A3 n3 d3, .slice A4 n4 d4, .slice A5 n5 d5]
   replace o3 := o3.box (g := w.heap.size + 1) bR (by decide) 0 [.int .i64 0, .slice A3 n3 d3, .slice A4 n4 d4, .slice A5 n5 d5]
   replace o4 := o4.box (g := w.heap.size + 1) bR (by decide) 0 [.int .i64 0, .slice A3 n3 d3, .slice A4 n4 d4, .slice A5 n5 d5]
   replace o5 := o5.box (g := w.heap.size + 1) bR (by decide) 0 [.int .i64 0, .slice A3 n3 d3, .slice A4 n4 d4, .slice A5 n5 d5]
   replace b0 := setL_below b0 [.int .i64 0, .slice A3 n3 d3, .slice A4 n4 d4, .slice A5 n5 d5] (w.heap.size + 1) 0 (by omega)
   have zs_5 : (setL w3 (w.heap.size + 1) 0 [.int .i64 0, .slice A3 n3 d3, .slice A4 n4 d4, .slice A5 n5 d5]).heap.size = w3.heap.size := setL_size _ _ _ _
   replace bR := bR.setAll [.int .i64 0, .slice A3 n3 d3, .slice A4 n4 d4, .slice A5 n5 d5] rfl
   generalize setL w3 _ 0 _ = w5 at *
   have u0_ := bR.c0
   have u1_ := bR.c1
   have u2_ := bR.c2
   have u3_ := bR.c3
   refine bodyPost_ret (by simp only [results, Tryz.results7]; simp [go_sem, u0_, u1_, u2_, u3_]; rfl) rfl ?_
   exact ⟨_, _, _, by rw [HF.out.1, HF.out.2.1, HF.out.2.2.2.2.2], by rw [HF.out.2.2.1]; exact o3.mono (by omega) (by omega), by rw [HF.out.2.2.2.1]; exact o4.mono (by omega) (by omega), by rw [HF.out.2.2.2.2.1]; exact o5.mono (by omega) (by omega), b0⟩
  ·have HF := Lib.hid (Fa.tt_yes (m := m) (st := st) (ls := ls) (lw := lw) (by simp [Fa.ttOk, hg, hk]))
   have HK := Lib.hid (show Fa.tkM m ls (minI m (Fa.run st ls)) = m ∧ Fa.tkU st ls (minI m (Fa.run st ls)) = st ++ [Sl.tkI ls] ∧ Sl.tkR ls (minI m (Fa.run st ls)) = Sl.tkS ls ∧ Qu.tkK ls (minI m (Fa.run st ls)) lw = lw ∧ Sl.tkV ls (minI m (Fa.run st ls)) = Sl.tkI ls ∧ Sl.tkOk ls (minI m (Fa.run st ls)) = true from by simp [Fa.tkM, Fa.tkU, Sl.tkR, Qu.tkK, Sl.tkV, hk])
   have hI := Sl.tk_irq HG.out hk
   have hId : decide (Sl.tkI ls < 0) = false := decide_eq_false (by omega)
   rw [hg] at c1
   clear hg hk
   go_enter Tryz.func7, Tryz.ntmps7
   have bx_0 := bx.c0
   have bx_1 := bx.c1
   have bx_2 := bx.c2
   have bx_3 := bx.c3
   have bx_z := bx.frozen
   have bx_l := bx.lt
   have bR_0 := bR.c0
   have bR_1 := bR.c1
   have bR_2 := bR.c2
   have bR_3 := bR.c3
   have bR_z := bR.frozen
   have bR_l := bR.lt
   go_wp2_with fail
   clear hwA
   clear bx_0 bx_1 bx_2 bx_3 bx_z bx_l bR_0 bR_1 bR_2 bR_3 bR_z bR_l
   refine (c1).mono ?_; rintro q_ w1 ⟨rfl, b_1⟩
   replace bx := bx.below b_1 bx.lt
   replace bR := bR.below b_1 bR.lt
   replace ht := ht.below b_1 (by omega)
   replace hs := hs.below b_1 (by omega)
   replace hw := hw.below b_1 (by omega)
   have z_2 := b_1.size
   replace b0 := b0.trans (b_1.mono (by omega))
   clear b_1
   have bx_0 := bx.c0
   have bx_1 := bx.c1
   have bx_2 := bx.c2
   have bx_3 := bx.c3
   have bx_z := bx.frozen
   have bx_l := bx.lt
   have bR_0 := bR.c0
   have bR_1 := bR.c1
   have bR_2 := bR.c2
   have bR_3 := bR.c3
   have bR_z := bR.frozen
   have bR_l := bR.lt
   go_wp2_with fail
   clear bx_0 bx_1 bx_2 bx_3 bx_z bx_l bR_0 bR_1 bR_2 bR_3 bR_z bR_l
   have c2 := implTakeF_in m _ _ _ st ls lw w1 ht hs hw (by omega) (by omega) (by omega) HG.out HX.out hl hl2
   rw [HK.out.1, HK.out.2.1, HK.out.2.2.1, HK.out.2.2.2.1, HK.out.2.2.2.2.1, HK.out.2.2.2.2.2] at c2
   refine (c2).mono ?_; rintro q_ w3 ⟨v3, v4, v5, rfl, o3, o4, o5, b_3⟩
   replace bx := bx.below b_3 bx.lt
   replace bR := bR.below b_3 bR.lt
   replace ht := ht.below b_3 (by omega)
   replace hs := hs.below b_3 (by omega)
   replace hw := hw.below b_3 (by omega)
   have z_4 := b_3.size
   replace b0 := b0.trans (b_3.mono (by omega))
   clear b_3
   obtain ⟨A3, n3, d3, rfl, _, _, _⟩ := o3.rd.form
   obtain ⟨A4, n4, d4, rfl, _, _, _⟩ := o4.rd.form
   obtain ⟨A5, n5, d5, rfl, _, _, _⟩ := o5.rd.form
   have bx_0 := bx.c0
   have bx_1 := bx.c1
   have bx_2 := bx.c2
   have bx_3 := bx.c3
   have bx_z := bx.frozen
   have bx_l := bx.lt
   have bR_0 := bR.c0
   have bR_1 := bR.c1
   have bR_2 := bR.c2
   have bR_3 := bR.c3
   have bR_z := bR.frozen
   have bR_l := bR.lt
   go_wp2_with fail
   clear bx_0 bx_1 bx_2 bx_3 bx_z bx_l bR_0 bR_1 bR_2 bR_3 bR_z bR_l
   generalize hwz : World.setCell (World.setCell (World.setCell (World.setCell _ _ _) _ _) _ _) _ _ = wz_
   obtain rfl : wz_ = setL w3 (w.heap.size + 1) 0 [.int .i64 m, .slice A3 n3 d3, .slice A4 n4 d4, .slice A5 n5 d5] := hwz.symm
   clear hwz
   replace bx := bx.other (b := w.heap.size + 1) (by omega) 0 [.int .i64 m, .slice A3 n3 d3, .slice A4 n4 d4, .slice A5 n5 d5]
   replace ht := ht.away (g := w.heap.size + 1) (by omega) 0 [.int .i64 m, .slice A3 n3 d3, .slice A4 n4 d4, .slice A5 n5 d5]
   replace hs := hs.away (g := w.heap.size + 1) (by omega) 0 [.int .i64 m, .slice A3 n3 d3, .slice A4 n4 d4, .slice A5 n5 d5]
   replace hw := hw.away (g := w.heap.size + 1) (by omega) 0 [.int .i64 m, .slice A3 n3 d3, .slice A4 n4 d4, .slice A5 n5 d5]
   replace o3 := o3.box (g := w.heap.size + 1) bR (by decide) 0 [.int .i64 m, .slice A3 n3 d3, .slice A4 n4 d4, .slice A5 n5 d5]
   replace o4 := o4.box (g := w.heap.size + 1) bR (by decide) 0 [.int .i64 m, .slice A3 n3 d3, .slice A4 n4 d4, .slice A5 n5 d5]
   replace o5 := o5.box (g := w.heap.size + 1) bR (by decide) 0 [.int .i64 m, .slice A3 n3 d3, .slice A4 n4 d4, .slice A5 n5 d5]
   replace b0 := setL_below b0 [.int .i64 m, .slice A3 n3 d3, .slice A4 n4 d4, .slice A5 n5 d5] (w.heap.size + 1) 0 (by omega)
   have zs_5 : (setL w3 (w.heap.size + 1) 0 [.int .i64 m, .slice A3 n3 d3, .slice A4 n4 d4, .slice A5 n5 d5]).heap.size = w3.heap.size := setL_size _ _ _ _
   replace bR := bR.setAll [.int .i64 m, .slice A3 n3 d3, .slice A4 n4 d4, .slice A5 n5 d5] rfl
   generalize setL w3 _ 0 _ = w5 at *
   have u0_ := bR.c0
   have u1_ := bR.c1
   have u2_ := bR.c2
   have u3_ := bR.c3
   refine bodyPost_ret (by simp only [results, Tryz.results7]; simp [go_sem, u0_, u1_, u2_, u3_]; rfl) rfl ?_
   exact ⟨_, _, _, by rw [HF.out.1, HF.out.2.1, HF.out.2.2.2.2.2], by rw [HF.out.2.2.1]; exact o3.mono (by omega) (by omega), by rw [HF.out.2.2.2.1]; exact o4.mono (by omega) (by omega), by rw [HF.out.2.2.2.2.1]; exact o5.mono (by omega) (by omega), b0⟩

end Go.Proofs.YtndfmkbpdoohfaaGreat

/- Appending one number: where the row lies afterwards. No condition. -/
namespace Go.Proofs.YtndfmkbpdoohfaaGreat
open Go.RowKit Go.ChangeShapes Go.WideShapes Go.Deep

theorem Nm.app_one2 {w : World} {ops : Array Oper} {rest : List Oper} {o : Oper} {a : Act} {Q : Exit → Act → World → Prop} (hgd : o.guard = none) (s x : Operand)
  (ho : o.op = .call { callee := .builtin .append, args := #[s, x], argTypes := #[24, 24] }) (base : Nat)
  (v : Value) (n : Nat) (xs : List Value) (hs : a.eval s = v) (hown : w.ownsRow base 3 1 v n xs) {g c : Nat} (y : Int) (hx : a.eval x = .slice (some ⟨g, 0, none⟩) 1 c) (hr : ∀ j u, (Nm.cells y)[j]? = some u → w.cell? ⟨g, j, none⟩ = some u)
  (hlen : n ≤ 4194304) (hbase : base ≤ w.heap.size)
  (h : ∀ v' w', w'.ownsRow base 3 1 v' (n + 1) (xs ++ Nm.cells y) → w.grownBy w' v.ownBlock → (v'.ownBlock = v.ownBlock ∨ v'.ownBlock = some w.heap.size) → wpList Tryz.prog ops Q rest (a.put o.dst v') w') : wpList Tryz.prog ops Q (o :: rest) a w := by
 obtain ⟨i0, hi0, hz0, hz1, hz2⟩ := info_parts Nm.info
 exact wpList_append_lies w hgd s x _ ho base _ i0 _ 1 _ Tryz.underlying24 hi0 hz0 hz1 hz2 rfl (by omega) v n xs hs hown ⟨g, 0, none⟩ 1 c (Nm.cells y) hx (by rw [Nm.cells_len]) (fun j u hu => by rw [Go.WideShapes.add_plain, Nat.zero_add]; exact hr j u hu) (Nm.one y) (by omega) (by unfold maxLen; omega) (by omega) hbase _ rfl
  fun g cap w' h1 h2 h3 _ => h _ w' h1 h2 (by
   rcases h3 with h3 | h3
   ·left; rw [h3]; rfl
   ·right; rw [h3]; rfl)

end Go.Proofs.YtndfmkbpdoohfaaGreat
