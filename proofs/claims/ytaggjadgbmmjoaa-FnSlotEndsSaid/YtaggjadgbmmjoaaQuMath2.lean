/- Offering, ending, withdrawing, taking in turn: what becomes of a queue, in plain terms. No condition. -/
import Derived.Test.YtaggjadgbmmjoaaQuMath
import Derived.Test.YtaggjadgbmmjoaaSlTake
namespace Go.Proofs.Ytaggjadgbmmjoaa

theorem Qu.parts_set {ls : List Sl} {lw : List Wt} {k : Nat} {s x : Sl} (h : Qu.parts ls lw = true) (hs : ls[k]? = some s) (h0 : ¬ s.state = 0) (hx : x.fine) (hi : ¬ x.state = 0 → x.irq = s.irq) : Qu.parts (ls.set k x) lw = true := by
  obtain ⟨hg, h1, h2, h3, h4⟩ := Qu.parts_iff.1 h
  refine Qu.parts_iff.2 ⟨Sl.good_set hg hx (fun hx0 j u hj hu hu0 => by rw [hi hx0]; exact Sl.good_two hg hj hu hs hu0 h0), h1, fun w hw u hu hu0 => ?_, h3, h4⟩
  rcases mem_set_or hu with rfl | ⟨j, _, hj⟩
  · rw [hi hu0]; exact h2 w hw s (List.mem_of_getElem? hs) h0
  · exact h2 w hw u (List.mem_of_getElem? hj) hu0
theorem Qu.parts_ins {ls : List Sl} {lw : List Wt} {x : Wt} (h : Qu.parts ls lw = true) (hx : x.fine) (hl : Sl.lacks ls x.irq) (hn : ∀ y ∈ lw, y.irq ≠ x.irq) : Qu.parts ls (Wt.ins lw x) = true := by
  obtain ⟨hg, h1, h2, h3, h4⟩ := Qu.parts_iff.1 h
  refine Qu.parts_iff.2 ⟨hg, fun w hw => ?_, fun w hw => ?_, Wt.ins_sorted h3 hn, Wt.ins_irqs h4 hn⟩
  · rcases Wt.ins_mem.1 hw with rfl | hw
    · exact hx
    · exact h1 w hw
  · rcases Wt.ins_mem.1 hw with rfl | hw
    · exact hl
    · exact h2 w hw
theorem Qu.parts_erase {ls : List Sl} {lw : List Wt} (k : Nat) (h : Qu.parts ls lw = true) : Qu.parts ls (lw.eraseIdx k) = true := by
  obtain ⟨hg, h1, h2, h3, h4⟩ := Qu.parts_iff.1 h
  have hsub := List.eraseIdx_sublist lw k
  exact Qu.parts_iff.2 ⟨hg, fun w hw => h1 w (hsub.mem hw), fun w hw => h2 w (hsub.mem hw), h3.sublist hsub, h4.sublist hsub⟩
theorem Sl.ix_hit {ls : List Sl} {i : Int} (h : 0 ≤ Sl.ix ls i) : ∃ (k : Nat) (s : Sl), Sl.ix ls i = k ∧ k < ls.length ∧ ls[k]? = some s ∧ ¬ s.state = 0 ∧ s.irq = i := by
  rcases find_cases (Sl.has i) ls with ⟨hf, _⟩ | ⟨k, s, hf, hk, hs, hp⟩
  · unfold Sl.ix at h; omega
  · refine ⟨k, s, hf, hk, hs, ?_⟩
    simpa [Sl.has] using hp
theorem Sl.fine_both {s : Sl} (h : s.fine) (h0 : ¬ s.state = 0) : (Sl.both s).fine ∧ ¬ (Sl.both s).state = 0 ∧ (Sl.both s).irq = s.irq := by
  unfold Sl.both
  split
  · refine ⟨?_, by simp, rfl⟩
    unfold Sl.fine at *
    rw [if_neg h0] at h
    rw [if_neg (by simp)]
    exact ⟨by simp, h.2⟩
  · exact ⟨h, h0, rfl⟩
theorem Sl.fine_zero : (⟨0, 0, 0⟩ : Sl).fine := by simp [Sl.fine]
theorem Sl.fine_ended {s : Sl} (h : s.fine) (h0 : ¬ s.state = 0) : (Sl.ended s).fine ∧ (¬ (Sl.ended s).state = 0 → (Sl.ended s).irq = s.irq) := by
  unfold Sl.ended
  split
  · exact ⟨Sl.fine_zero, fun h => absurd rfl h⟩
  · refine ⟨?_, fun _ => rfl⟩
    unfold Sl.fine at *
    rw [if_neg h0] at h
    rw [if_neg (by simp)]
    exact ⟨by simp, h.2⟩
theorem Sl.fine_act {s : Sl} (h : s.fine) (h0 : ¬ s.state = 0) : (Sl.act s).fine ∧ (¬ (Sl.act s).state = 0 → (Sl.act s).irq = s.irq) := by
  refine ⟨?_, fun _ => rfl⟩
  unfold Sl.fine Sl.act at *
  rw [if_neg h0] at h
  rw [if_neg (by simp)]
  exact ⟨by simp, h.2⟩

/-! ### offering -/
def Qu.ofOk (ls : List Sl) (lw : List Wt) (i p : Int) : Bool := Qu.good ls lw && (inB i 0 7 && inB p 0 15)
def Qu.of0 (ls : List Sl) (lw : List Wt) (i p : Int) : List Sl × List Wt := if 0 ≤ Sl.ix ls i then (Sl.putR ls i p, lw) else if lw.any (Wt.isI i) then (ls, lw) else (ls, Wt.ins lw ⟨i, p⟩)
def Qu.ofP (ls : List Sl) (lw : List Wt) (i p : Int) : List Sl × List Wt := Qu.st (Qu.of0 ls lw i p).1 (Qu.of0 ls lw i p).2
def Qu.ofS (ls : List Sl) (lw : List Wt) (i p : Int) : List Sl := if Qu.ofOk ls lw i p then (Qu.ofP ls lw i p).1 else []
def Qu.ofW (ls : List Sl) (lw : List Wt) (i p : Int) : List Wt := if Qu.ofOk ls lw i p then (Qu.ofP ls lw i p).2 else []
theorem Qu.of_hit {ls : List Sl} {lw : List Wt} {i p : Int} (h : 0 ≤ Sl.ix ls i) : Qu.of0 ls lw i p = (Sl.putR ls i p, lw) := by simp [Qu.of0, h]
theorem Qu.of_had {ls : List Sl} {lw : List Wt} {i p : Int} (h : Sl.ix ls i < 0) (h2 : lw.any (Wt.isI i) = true) : Qu.of0 ls lw i p = (ls, lw) := by simp [Qu.of0, h2, show ¬ 0 ≤ Sl.ix ls i by omega]
theorem Qu.of_new {ls : List Sl} {lw : List Wt} {i p : Int} (h : Sl.ix ls i < 0) (h2 : lw.any (Wt.isI i) = false) : Qu.of0 ls lw i p = (ls, Wt.ins lw ⟨i, p⟩) := by simp [Qu.of0, h2, show ¬ 0 ≤ Sl.ix ls i by omega]
theorem Qu.any_isI {lw : List Wt} {i : Int} (h : lw.any (Wt.isI i) = false) : ∀ y ∈ lw, y.irq ≠ i := fun y hy e => by
  have := List.any_eq_false.1 h y hy
  simp [Wt.isI, e] at this
theorem Qu.of_parts {ls : List Sl} {lw : List Wt} {i p : Int} (h : Qu.parts ls lw = true) (hi : inB i 0 7 = true) (hp : inB p 0 15 = true) : Qu.parts (Qu.of0 ls lw i p).1 (Qu.of0 ls lw i p).2 = true := by
  have hg := (Qu.parts_get h).1
  by_cases h1 : 0 ≤ Sl.ix ls i
  · rw [Qu.of_hit h1]
    obtain ⟨k, s, hk, _, hs, h0, _⟩ := Sl.ix_hit h1
    have hf := Sl.fine_both (Sl.good_fine hg hs) h0
    show Qu.parts (Sl.putR ls i p) lw = true
    rw [(Sl.put_hit (p := p) hk hs).2]
    exact Qu.parts_set h hs h0 hf.1 (fun _ => hf.2.2)
  · have h1' : Sl.ix ls i < 0 := by omega
    cases h2 : lw.any (Wt.isI i)
    · rw [Qu.of_new h1' h2]
      exact Qu.parts_ins h ⟨inB_true hi, inB_true hp⟩ (Sl.ix_neg.1 h1') (Qu.any_isI h2)
    · rw [Qu.of_had h1' h2]; exact h
theorem Qu.ofOk_get {ls : List Sl} {lw : List Wt} {i p : Int} (h : Qu.ofOk ls lw i p = true) : Qu.good ls lw = true ∧ inB i 0 7 = true ∧ inB p 0 15 = true := by simpa [Qu.ofOk] using h
theorem Qu.ofP_good {ls : List Sl} {lw : List Wt} {i p : Int} (h : Qu.ofOk ls lw i p = true) : Qu.good (Qu.ofP ls lw i p).1 (Qu.ofP ls lw i p).2 = true := by
  obtain ⟨h1, h2, h3⟩ := Qu.ofOk_get h
  exact Qu.st_good (Qu.of_parts (Qu.good_parts h1).1 h2 h3)
theorem Qu.good_len2 {ls : List Sl} {lw : List Wt} (h : Qu.good ls lw = true) : ls.length = 4 ∧ lw.length ≤ 8 := by
  have := (Qu.good_parts h).1
  exact ⟨Sl.good_len (Qu.parts_get this).1, Qu.parts_len this⟩
theorem Qu.ofS_len (ls : List Sl) (lw : List Wt) (i p : Int) : (Qu.ofS ls lw i p).length ≤ 1048576 := by
  unfold Qu.ofS; split
  · rename_i h; have := Qu.good_len2 (Qu.ofP_good h); omega
  · simp
theorem Qu.ofW_len (ls : List Sl) (lw : List Wt) (i p : Int) : (Qu.ofW ls lw i p).length ≤ 1048576 := by
  unfold Qu.ofW; split
  · rename_i h; have := Qu.good_len2 (Qu.ofP_good h); omega
  · simp
theorem Qu.of_no {ls : List Sl} {lw : List Wt} {i p : Int} (h : Qu.ofOk ls lw i p = false) : Qu.ofOk ls lw i p = false ∧ Qu.ofS ls lw i p = [] ∧ Qu.ofW ls lw i p = [] := by simp [Qu.ofS, Qu.ofW, h]
theorem Qu.of_yes {ls : List Sl} {lw : List Wt} {i p : Int} (h : Qu.ofOk ls lw i p = true) : Qu.ofOk ls lw i p = true ∧ Qu.ofS ls lw i p = (Qu.ofP ls lw i p).1 ∧ Qu.ofW ls lw i p = (Qu.ofP ls lw i p).2 := by simp [Qu.ofS, Qu.ofW, h]

/-! ### settling given parts -/
def Qu.seS (ls : List Sl) (lw : List Wt) : List Sl := if Qu.parts ls lw then (Qu.st ls lw).1 else []
def Qu.seW (ls : List Sl) (lw : List Wt) : List Wt := if Qu.parts ls lw then (Qu.st ls lw).2 else []
theorem Qu.seS_len (ls : List Sl) (lw : List Wt) : (Qu.seS ls lw).length ≤ 1048576 := by
  unfold Qu.seS; split
  · rename_i h; have := Qu.st_len h; omega
  · simp
theorem Qu.seW_len (ls : List Sl) (lw : List Wt) : (Qu.seW ls lw).length ≤ 1048576 := by
  unfold Qu.seW; split
  · rename_i h; have := Qu.st_len h; omega
  · simp
theorem Qu.se_no {ls : List Sl} {lw : List Wt} (h : Qu.parts ls lw = false) : Qu.seS ls lw = [] ∧ Qu.seW ls lw = [] := by simp [Qu.seS, Qu.seW, h]
theorem Qu.se_yes {ls : List Sl} {lw : List Wt} (h : Qu.parts ls lw = true) : Qu.seS ls lw = (Qu.st ls lw).1 ∧ Qu.seW ls lw = (Qu.st ls lw).2 := by simp [Qu.seS, Qu.seW, h]

/-! ### ending -/
def Qu.enG (ls : List Sl) (lw : List Wt) (i : Int) : Bool := Qu.good ls lw && inB i 0 7
def Qu.enOk (ls : List Sl) (lw : List Wt) (i : Int) : Bool := Qu.enG ls lw i && Sl.endOk ls i
def Qu.enP (ls : List Sl) (lw : List Wt) (i : Int) : List Sl × List Wt := Qu.st (Sl.endR ls i) lw
/-- what the inner function gives: nothing if there is nothing to end -/
def Qu.eiS (ls : List Sl) (lw : List Wt) (i : Int) : List Sl := if Sl.endOk ls i then (Qu.enP ls lw i).1 else []
def Qu.eiW (ls : List Sl) (lw : List Wt) (i : Int) : List Wt := if Sl.endOk ls i then (Qu.enP ls lw i).2 else []
def Qu.enS (ls : List Sl) (lw : List Wt) (i : Int) : List Sl := if Qu.enG ls lw i then Qu.eiS ls lw i else []
def Qu.enW (ls : List Sl) (lw : List Wt) (i : Int) : List Wt := if Qu.enG ls lw i then Qu.eiW ls lw i else []
theorem Qu.ei_no {ls : List Sl} {i : Int} (h : Sl.endOk ls i = false) (lw : List Wt) : Qu.eiS ls lw i = [] ∧ Qu.eiW ls lw i = [] := by simp [Qu.eiS, Qu.eiW, h]
theorem Qu.ei_yes {ls : List Sl} {i : Int} (h : Sl.endOk ls i = true) (lw : List Wt) : Qu.eiS ls lw i = (Qu.enP ls lw i).1 ∧ Qu.eiW ls lw i = (Qu.enP ls lw i).2 := by simp [Qu.eiS, Qu.eiW, h]
theorem Qu.en_no {ls : List Sl} {lw : List Wt} {i : Int} (h : Qu.enG ls lw i = false) : Qu.enOk ls lw i = false ∧ Qu.enS ls lw i = [] ∧ Qu.enW ls lw i = [] := by simp [Qu.enOk, Qu.enS, Qu.enW, h]
theorem Qu.en_yes {ls : List Sl} {lw : List Wt} {i : Int} (h : Qu.enG ls lw i = true) : Qu.enOk ls lw i = Sl.endOk ls i ∧ Qu.enS ls lw i = Qu.eiS ls lw i ∧ Qu.enW ls lw i = Qu.eiW ls lw i := by simp [Qu.enOk, Qu.enS, Qu.enW, h]
theorem Sl.endOk_hit {ls : List Sl} {i : Int} (h : Sl.endOk ls i = true) : ∃ (k : Nat) (s : Sl), Sl.ix ls i = k ∧ k < ls.length ∧ ls[k]? = some s ∧ ¬ s.state = 0 ∧ s.irq = i ∧ ¬ s.state = 1 ∧ Sl.endR ls i = ls.set k (Sl.ended s) := by
  have h' := h
  simp only [Sl.endOk, Bool.and_eq_true, decide_eq_true_eq] at h
  obtain ⟨k, s, hk, hlt, hs, h0, hi⟩ := Sl.ix_hit h.1
  have h2 := h.2
  rw [hk, Sl.at_get hs] at h2
  have h1 : ¬ s.state = 1 := by simpa using h2
  exact ⟨k, s, hk, hlt, hs, h0, hi, h1, (Sl.end_hit hk hs h1).2⟩
theorem Qu.en_parts {ls : List Sl} {lw : List Wt} {i : Int} (h : Qu.parts ls lw = true) (hk : Sl.endOk ls i = true) : Qu.parts (Sl.endR ls i) lw = true := by
  obtain ⟨k, s, _, _, hs, h0, _, _, e⟩ := Sl.endOk_hit hk
  have hf := Sl.fine_ended (Sl.good_fine (Qu.parts_get h).1 hs) h0
  rw [e]
  exact Qu.parts_set h hs h0 hf.1 hf.2
theorem Qu.eiP_good {ls : List Sl} {lw : List Wt} {i : Int} (h : Qu.parts ls lw = true) (hk : Sl.endOk ls i = true) : Qu.good (Qu.enP ls lw i).1 (Qu.enP ls lw i).2 = true := Qu.st_good (Qu.en_parts h hk)
theorem Qu.enG_get {ls : List Sl} {lw : List Wt} {i : Int} (h : Qu.enG ls lw i = true) : Qu.good ls lw = true ∧ inB i 0 7 = true := by simpa [Qu.enG] using h
theorem Qu.eiS_len {ls : List Sl} {lw : List Wt} (h : Qu.parts ls lw = true) (i : Int) : (Qu.eiS ls lw i).length ≤ 1048576 ∧ (Qu.eiW ls lw i).length ≤ 1048576 := by
  cases hk : Sl.endOk ls i
  · rw [(Qu.ei_no hk lw).1, (Qu.ei_no hk lw).2]; simp
  · rw [(Qu.ei_yes hk lw).1, (Qu.ei_yes hk lw).2]
    have := Qu.good_len2 (Qu.eiP_good h hk)
    omega
theorem Qu.enS_len (ls : List Sl) (lw : List Wt) (i : Int) : (Qu.enS ls lw i).length ≤ 1048576 := by
  unfold Qu.enS; split
  · rename_i h; exact (Qu.eiS_len (Qu.good_parts (Qu.enG_get h).1).1 i).1
  · simp
theorem Qu.enW_len (ls : List Sl) (lw : List Wt) (i : Int) : (Qu.enW ls lw i).length ≤ 1048576 := by
  unfold Qu.enW; split
  · rename_i h; exact (Qu.eiS_len (Qu.good_parts (Qu.enG_get h).1).1 i).2
  · simp

/-! ### withdrawing -/
def Qu.wiOk0 (ls : List Sl) (lw : List Wt) (i : Int) : Bool := lw.any (Wt.isI i) || (decide (0 ≤ Sl.ix ls i) && !((Sl.at_ ls (Sl.ix ls i)).state == 2))
def Qu.wiOk (ls : List Sl) (lw : List Wt) (i : Int) : Bool := Qu.enG ls lw i && Qu.wiOk0 ls lw i
def Sl.drop (s : Sl) : Sl := if s.state = 3 then ⟨2, s.irq, s.prio⟩ else ⟨0, 0, 0⟩
def Qu.wi0 (ls : List Sl) (lw : List Wt) (i : Int) : List Sl × List Wt := if lw.any (Wt.isI i) then (ls, lw.eraseIdx (findIx (Wt.isI i) lw).toNat) else (ls.set (Sl.ix ls i).toNat (Sl.drop (Sl.at_ ls (Sl.ix ls i))), lw)
def Qu.wiP (ls : List Sl) (lw : List Wt) (i : Int) : List Sl × List Wt := Qu.st (Qu.wi0 ls lw i).1 (Qu.wi0 ls lw i).2
def Qu.wiS (ls : List Sl) (lw : List Wt) (i : Int) : List Sl := if Qu.wiOk ls lw i then (Qu.wiP ls lw i).1 else []
def Qu.wiW (ls : List Sl) (lw : List Wt) (i : Int) : List Wt := if Qu.wiOk ls lw i then (Qu.wiP ls lw i).2 else []
theorem Qu.wi_no {ls : List Sl} {lw : List Wt} {i : Int} (h : Qu.wiOk ls lw i = false) : Qu.wiOk ls lw i = false ∧ Qu.wiS ls lw i = [] ∧ Qu.wiW ls lw i = [] := by simp [Qu.wiS, Qu.wiW, h]
theorem Qu.wi_yes {ls : List Sl} {lw : List Wt} {i : Int} (h : Qu.wiOk ls lw i = true) : Qu.wiOk ls lw i = true ∧ Qu.wiS ls lw i = (Qu.wiP ls lw i).1 ∧ Qu.wiW ls lw i = (Qu.wiP ls lw i).2 := by simp [Qu.wiS, Qu.wiW, h]
theorem Qu.wi_had {ls : List Sl} {lw : List Wt} {i : Int} {k : Nat} (h : findIx (Wt.isI i) lw = k) : Qu.wiOk0 ls lw i = true ∧ Qu.wi0 ls lw i = (ls, lw.eraseIdx k) := by
  have ha : lw.any (Wt.isI i) = true := by rw [← findIx_nonneg, h]; simp
  simp [Qu.wiOk0, Qu.wi0, ha, h]
theorem Qu.wi_slot {ls : List Sl} {lw : List Wt} {i : Int} {k : Nat} {s : Sl} (h : lw.any (Wt.isI i) = false) (hk : Sl.ix ls i = k) (hs : ls[k]? = some s) : Qu.wiOk0 ls lw i = !(s.state == 2) ∧ Qu.wi0 ls lw i = (ls.set k (Sl.drop s), lw) := by
  simp [Qu.wiOk0, Qu.wi0, h, hk, Sl.at_get hs]
theorem Qu.wi_none {ls : List Sl} {lw : List Wt} {i : Int} (h : lw.any (Wt.isI i) = false) (hk : Sl.ix ls i < 0) : Qu.wiOk0 ls lw i = false := by
  simp [Qu.wiOk0, h, show ¬ 0 ≤ Sl.ix ls i by omega]
theorem Sl.fine_drop {s : Sl} (h : s.fine) (h0 : ¬ s.state = 0) : (Sl.drop s).fine ∧ (¬ (Sl.drop s).state = 0 → (Sl.drop s).irq = s.irq) := by
  unfold Sl.drop
  split
  · refine ⟨?_, fun _ => rfl⟩
    unfold Sl.fine at *
    rw [if_neg h0] at h
    rw [if_neg (by simp)]
    exact ⟨by simp, h.2⟩
  · exact ⟨Sl.fine_zero, fun h => absurd rfl h⟩
theorem Qu.wi_parts {ls : List Sl} {lw : List Wt} {i : Int} (h : Qu.parts ls lw = true) (hk : Qu.wiOk0 ls lw i = true) : Qu.parts (Qu.wi0 ls lw i).1 (Qu.wi0 ls lw i).2 = true := by
  unfold Qu.wi0
  split
  · exact Qu.parts_erase _ h
  · rename_i ha
    simp only [Qu.wiOk0, ha, Bool.false_or, Bool.and_eq_true, decide_eq_true_eq] at hk
    obtain ⟨k, s, hx, _, hs, h0, _⟩ := Sl.ix_hit hk.1
    have hf := Sl.fine_drop (Sl.good_fine (Qu.parts_get h).1 hs) h0
    rw [hx, Sl.at_get hs]
    exact Qu.parts_set h hs h0 hf.1 hf.2
theorem Qu.wiOk_get {ls : List Sl} {lw : List Wt} {i : Int} (h : Qu.wiOk ls lw i = true) : Qu.good ls lw = true ∧ inB i 0 7 = true ∧ Qu.wiOk0 ls lw i = true := by
  simp only [Qu.wiOk, Qu.enG, Bool.and_eq_true] at h
  exact ⟨h.1.1, h.1.2, h.2⟩
theorem Qu.wiP_good {ls : List Sl} {lw : List Wt} {i : Int} (h : Qu.wiOk ls lw i = true) : Qu.good (Qu.wiP ls lw i).1 (Qu.wiP ls lw i).2 = true := by
  obtain ⟨h1, _, h3⟩ := Qu.wiOk_get h
  exact Qu.st_good (Qu.wi_parts (Qu.good_parts h1).1 h3)
theorem Qu.wiS_len (ls : List Sl) (lw : List Wt) (i : Int) : (Qu.wiS ls lw i).length ≤ 1048576 := by
  unfold Qu.wiS; split
  · rename_i h; have := Qu.good_len2 (Qu.wiP_good h); omega
  · simp
theorem Qu.wiW_len (ls : List Sl) (lw : List Wt) (i : Int) : (Qu.wiW ls lw i).length ≤ 1048576 := by
  unfold Qu.wiW; split
  · rename_i h; have := Qu.good_len2 (Qu.wiP_good h); omega
  · simp
theorem findIx_set {α : Type} {p : α → Bool} {k : Nat} {s x : α} (h1 : p s = false) (h2 : p x = false) {l : List α} (hs : l[k]? = some s) : findIx p (l.set k x) = findIx p l := by
  rcases find_cases p l with ⟨hf, ha⟩ | ⟨j, u, hf, hj, hu, hp⟩
  · have : (l.set k x).any p = false := by
      rw [List.any_eq_false]
      intro y hy
      obtain ⟨j, hj⟩ := List.getElem?_of_mem hy
      rw [List.getElem?_set] at hj
      split at hj
      · split at hj
        · injection hj with hj; subst hj; simp [h2]
        · cases hj
      · exact List.any_eq_false.1 ha y (List.mem_of_getElem? hj)
    rw [hf, findIx, this]; rfl
  · obtain ⟨j', u', hf', _, hu', hp', ht⟩ := findIx_spec (List.any_eq_true.2 ⟨u, List.mem_of_getElem? hu, hp⟩)
    rw [hf']
    have hjk : j' ≠ k := fun e => by subst e; rw [hs] at hu'; injection hu' with hu'; subst hu'; rw [h1] at hp'; cases hp'
    refine findIx_hit ?_ (by rw [List.getElem?_set, if_neg (by omega)]; exact hu') hp'
    rw [any_take_false] at *
    intro i y hi hy
    rw [List.getElem?_set] at hy
    split at hy
    · split at hy
      · injection hy with hy; subst hy; exact h2
      · cases hy
    · exact ht i y hi hy
theorem Sl.best_set {most : Bool} {k : Nat} {s x : Sl} (h1 : ¬ s.state = 1) (h2 : ¬ x.state = 1) {l : List Sl} (hs : l[k]? = some s) : ∀ n : Nat, n ≤ l.length → Sl.best most (l.set k x) n = Sl.best most l n
  | 0, _ => rfl
  | n + 1, hn => by
    have ih := Sl.best_set (most := most) h1 h2 hs n (by omega)
    have hnl : l[n]? = some l[n] := List.getElem?_eq_getElem (by omega)
    by_cases hnk : n = k
    · subst hnk
      rw [Sl.best_succ (l := l.set n x) (s := x) (by rw [List.getElem?_set, if_pos rfl, if_pos (by omega)]), Sl.best_succ hs, ih]
      simp [Sl.bestIf, h1, h2]
    · rw [Sl.best_succ (l := l.set k x) (s := l[n]) (by rw [List.getElem?_set, if_neg (by omega)]; exact hnl), Sl.best_succ hnl, ih]
      rcases Sl.best_bd most l n (by omega) with hb | ⟨j, u, hb, hj, hu, hu1⟩
      · rw [hb]; simp [Sl.bestIf]
      · have hjk : ¬ k = j := fun e => by subst e; rw [hs] at hu; injection hu with hu; subst hu; exact h1 hu1
        rw [hb]
        simp only [Sl.bestIf, Int.toNat_natCast, List.getD_eq_getElem?_getD]
        rw [List.getElem?_set, if_neg hjk]
/-- a slot that is not pending may change into another one that is neither pending nor empty -/
theorem Qu.settled_set {ls : List Sl} {lw : List Wt} {k : Nat} {s x : Sl} (hs : ls[k]? = some s) (h0 : ¬ s.state = 0) (h1 : ¬ s.state = 1) (x0 : ¬ x.state = 0) (x1 : ¬ x.state = 1) : Qu.settled (ls.set k x) lw = Qu.settled ls lw := by
  cases lw with
  | nil => rfl
  | cons t rest =>
    have e1 : Sl.fx (ls.set k x) = Sl.fx ls := findIx_set (p := Sl.free) (by simpa [Sl.free] using h0) (by simpa [Sl.free] using x0) hs
    have e2 : Sl.bn (ls.set k x) = Sl.bn ls := by unfold Sl.bn; rw [List.length_set]; exact Sl.best_set h1 x1 hs _ (Nat.le_refl _)
    rw [Qu.settled, Qu.settled, e1, e2]
    rcases Sl.bn_cases ls with hb | ⟨j, u, hb, hj, hu, hu1⟩
    · rw [hb]; simp
    · have hjk : ¬ k = j := fun e => by subst e; rw [hs] at hu; injection hu with hu; subst hu; exact h1 hu1
      rw [hb, Sl.at_get hu, Sl.at_get (l := ls.set k x) (k := j) (s := u) (by rw [List.getElem?_set, if_neg hjk]; exact hu)]
theorem Qu.settled_erase {ls : List Sl} {lw : List Wt} (k : Nat) (h : Qu.good ls lw = true) : Qu.settled ls (lw.eraseIdx k) = true := by
  obtain ⟨hp, hs⟩ := Qu.good_parts h
  rcases Qu.settled_or hs with rfl | ⟨hf, t, rest, rfl, hb⟩
  · rfl
  · obtain ⟨_, _, _, hr, _, _⟩ := Qu.parts_head hp
    cases k with
    | zero =>
      rw [List.eraseIdx_cons_zero]
      cases rest with
      | nil => rfl
      | cons t2 rest =>
        have ht := (hr t2 (by simp)).1
        rw [Qu.settled, hf]
        rcases hb with hb | ⟨j, u, hb, hj, hu, _, hlt⟩
        · rw [hb]; rfl
        · rw [hb, Sl.at_get hu]
          simp [Wt.lt_trans hlt ht]
    | succ k =>
      rw [List.eraseIdx_cons_succ]
      exact hs
theorem Qu.wi_had_st {ls : List Sl} {lw : List Wt} {i : Int} {k : Nat} (hg : Qu.good ls lw = true) (h : findIx (Wt.isI i) lw = k) : Qu.wiP ls lw i = (ls, lw.eraseIdx k) := by
  rw [Qu.wiP, (Qu.wi_had h).2]
  exact Qu.st_done (Qu.settled_erase k hg)
theorem Qu.wi_both_st {ls : List Sl} {lw : List Wt} {i : Int} {k : Nat} {s : Sl} (hg : Qu.good ls lw = true) (h : lw.any (Wt.isI i) = false) (hk : Sl.ix ls i = k) (hs : ls[k]? = some s) (h3 : s.state = 3) : Qu.wiP ls lw i = (ls.set k ⟨2, s.irq, s.prio⟩, lw) := by
  have e : Sl.drop s = ⟨2, s.irq, s.prio⟩ := by simp [Sl.drop, h3]
  rw [Qu.wiP, (Qu.wi_slot h hk hs).2, e]
  exact Qu.st_done (by rw [Qu.settled_set hs (by omega) (by omega) (by simp) (by simp)]; exact (Qu.good_parts hg).2)

/-! ### serving in turn -/
def Sl.isP (s : Sl) : Bool := s.state == 1
/-- how many are pending and not active -/
def Qu.pc (ls : List Sl) (lw : List Wt) : Nat := lw.length + ls.countP Sl.isP
theorem Qu.countP_set : ∀ {ls : List Sl} {k : Nat} {s x : Sl}, ls[k]? = some s → (ls.set k x).countP Sl.isP + (if Sl.isP s then 1 else 0) = ls.countP Sl.isP + (if Sl.isP x then 1 else 0)
  | [], k, s, x, h => by simp at h
  | y :: ls, 0, s, x, h => by
    simp at h; subst h
    simp only [List.set_cons_zero, List.countP_cons]; omega
  | y :: ls, k + 1, s, x, h => by
    have ih := Qu.countP_set (ls := ls) (k := k) (s := s) (x := x) (by simpa using h)
    simp only [List.set_cons_succ, List.countP_cons]; omega
theorem Qu.step_pc {ls : List Sl} {lw : List Wt} (hs : Qu.settled ls lw = false) : Qu.pc (Qu.step ls lw).1 (Qu.step ls lw).2 = Qu.pc ls lw := by
  obtain ⟨t, rest, rfl, hc⟩ := Qu.unsettled hs
  have hp : Sl.isP (Sl.pend t) = true := rfl
  rcases hc with ⟨k, s, hk, _, hsk, h0⟩ | ⟨hf, k, s, hk, _, hsk, h1, hlt⟩
  · rw [Qu.step_free hk]
    have := Qu.countP_set (x := Sl.pend t) hsk
    have hsr : Sl.isP s = false := by simp [Sl.isP, h0]
    rw [hp, hsr] at this
    simp [Qu.pc] at *
    omega
  · rw [Qu.step_full hf hk hsk]
    have := Qu.countP_set (x := Sl.pend t) hsk
    have hsr : Sl.isP s = true := by simp [Sl.isP, h1]
    rw [hp, hsr] at this
    simp [Qu.pc, Wt.ins_len] at *
    omega
theorem Qu.run_pc : ∀ (n : Nat) (ls : List Sl) (lw : List Wt), Qu.pc (Qu.run n ls lw).1 (Qu.run n ls lw).2 = Qu.pc ls lw
  | 0, _, _ => rfl
  | n + 1, ls, lw => by
    cases hs : Qu.settled ls lw
    · rw [Qu.run, hs]
      simp only [Bool.false_eq_true, if_false]
      rw [Qu.run_pc n, Qu.step_pc hs]
    · simp [Qu.run, hs]
theorem Qu.st_pc (ls : List Sl) (lw : List Wt) : Qu.pc (Qu.st ls lw).1 (Qu.st ls lw).2 = Qu.pc ls lw := Qu.run_pc 1000 ls lw
/-- the next queue, when one has been taken and ended -/
def Qu.nx (ls : List Sl) (lw : List Wt) : List Sl × List Wt := Qu.enP (Sl.tkS ls) lw (Sl.tkI ls)
def Qu.sv : Nat → List Sl → List Wt → List Int
  | 0, _, _ => []
  | n + 1, ls, lw => if Sl.tkOk ls 16 then Sl.tkI ls :: Qu.sv n (Qu.nx ls lw).1 (Qu.nx ls lw).2 else []
theorem Sl.tkOk_hit {ls : List Sl} {m : Int} (h : Sl.tkOk ls m = true) : ∃ (k : Nat) (s : Sl), Sl.bx ls = k ∧ k < ls.length ∧ ls[k]? = some s ∧ s.state = 1 ∧ s.prio < m ∧ Sl.tkS ls = ls.set k (Sl.act s) ∧ Sl.tkI ls = s.irq := by
  simp only [Sl.tkOk, Bool.and_eq_true, decide_eq_true_eq] at h
  rcases Sl.bx_cases ls with hb | ⟨k, s, hb, hk, hs, h1⟩
  · omega
  · have h2 := h.2
    rw [hb, Sl.at_get hs] at h2
    refine ⟨k, s, hb, hk, hs, h1, h2, ?_, ?_⟩
    · rw [Sl.tkS, hb, Sl.at_get hs]; rfl
    · rw [Sl.tkI, hb, Sl.at_get hs]
theorem Sl.ix_of {ls : List Sl} (h : Sl.good ls = true) {k : Nat} {s : Sl} (hs : ls[k]? = some s) (h0 : ¬ s.state = 0) : Sl.ix ls s.irq = k := by
  have hlt := (List.getElem?_eq_some_iff.1 hs).1
  refine findIx_hit (any_take_false.2 fun j u hj hu => ?_) hs (by simp [Sl.has, h0])
  by_cases hu0 : u.state = 0
  · simp [Sl.has, hu0]
  · have := Sl.good_two h (by omega : j ≠ k) hu hs hu0 h0
    simp [Sl.has, this]
theorem Qu.tk_parts {ls : List Sl} {lw : List Wt} {m : Int} (h : Qu.parts ls lw = true) (hk : Sl.tkOk ls m = true) : Qu.parts (Sl.tkS ls) lw = true := by
  obtain ⟨k, s, _, _, hs, h1, _, e, _⟩ := Sl.tkOk_hit hk
  have hf := Sl.fine_act (Sl.good_fine (Qu.parts_get h).1 hs) (by omega)
  rw [e]
  exact Qu.parts_set h hs (by omega) hf.1 hf.2
/-- what has been taken can be ended -/
theorem Qu.tk_end {ls : List Sl} {lw : List Wt} {m : Int} (h : Qu.parts ls lw = true) (hk : Sl.tkOk ls m = true) : Sl.endOk (Sl.tkS ls) (Sl.tkI ls) = true ∧ ∃ (k : Nat) (s : Sl), ls[k]? = some s ∧ s.state = 1 ∧ Sl.bx ls = k ∧ Sl.tkS ls = ls.set k (Sl.act s) ∧ Sl.tkI ls = s.irq ∧ Sl.endR (Sl.tkS ls) (Sl.tkI ls) = ls.set k ⟨0, 0, 0⟩ := by
  have hp := Qu.tk_parts h hk
  obtain ⟨k, s, hb, hlt, hs, h1, _, e, e2⟩ := Sl.tkOk_hit hk
  have hg := (Qu.parts_get hp).1
  have hs' : (Sl.tkS ls)[k]? = some (Sl.act s) := by rw [e, List.getElem?_set, if_pos rfl, if_pos hlt]
  have hx : Sl.ix (Sl.tkS ls) (Sl.tkI ls) = k := by
    rw [e2]
    exact Sl.ix_of (s := Sl.act s) hg hs' (by simp [Sl.act])
  have hh := Sl.end_hit hx hs' (by simp [Sl.act])
  refine ⟨hh.1, k, s, hs, h1, hb, e, e2, ?_⟩
  rw [hh.2, e, List.set_set]; rfl
theorem Qu.nx_good {ls : List Sl} {lw : List Wt} (h : Qu.parts ls lw = true) {m : Int} (hk : Sl.tkOk ls m = true) : Qu.good (Qu.nx ls lw).1 (Qu.nx ls lw).2 = true := Qu.eiP_good (Qu.tk_parts h hk) (Qu.tk_end h hk).1
theorem Qu.nx_pc {ls : List Sl} {lw : List Wt} (h : Qu.parts ls lw = true) {m : Int} (hk : Sl.tkOk ls m = true) : Qu.pc (Qu.nx ls lw).1 (Qu.nx ls lw).2 + 1 = Qu.pc ls lw := by
  obtain ⟨_, k, s, hs, h1, _, _, _, e⟩ := Qu.tk_end h hk
  rw [Qu.nx, Qu.enP, Qu.st_pc, e]
  have := Qu.countP_set (x := ⟨0, 0, 0⟩) hs
  have hsr : Sl.isP s = true := by simp [Sl.isP, h1]
  rw [hsr, show Sl.isP ⟨0, 0, 0⟩ = false from rfl] at this
  simp [Qu.pc] at *
  omega
theorem Sl.tk_pc {ls : List Sl} {lw : List Wt} {m : Int} (hk : Sl.tkOk ls m = true) : 0 < Qu.pc ls lw := by
  obtain ⟨k, s, _, _, hs, h1, _, _, _⟩ := Sl.tkOk_hit hk
  have : 0 < ls.countP Sl.isP := List.countP_pos_iff.2 ⟨s, List.mem_of_getElem? hs, by simp [Sl.isP, h1]⟩
  unfold Qu.pc; omega
theorem Qu.sv_more : ∀ (n m : Nat) {ls : List Sl} {lw : List Wt}, Qu.parts ls lw = true → Qu.pc ls lw ≤ n → Qu.pc ls lw ≤ m → Qu.sv n ls lw = Qu.sv m ls lw
  | n, m, ls, lw, h, hn, hm => by
    cases hk : Sl.tkOk ls 16
    · cases n <;> cases m <;> simp [Qu.sv, hk]
    · have h1 := Qu.nx_pc h hk
      have h2 := (Qu.good_parts (Qu.nx_good h hk)).1
      obtain ⟨n', rfl⟩ : ∃ n', n = n' + 1 := ⟨n - 1, by omega⟩
      obtain ⟨m', rfl⟩ : ∃ m', m = m' + 1 := ⟨m - 1, by omega⟩
      rw [Qu.sv, Qu.sv, hk]
      simp only [if_true]
      rw [Qu.sv_more n' m' h2 (by omega) (by omega)]
termination_by n => n
def Qu.serve (ls : List Sl) (lw : List Wt) : List Int := Qu.sv (Qu.pc ls lw) ls lw
theorem Qu.serve_no {ls : List Sl} {lw : List Wt} (hk : Sl.tkOk ls 16 = false) : Qu.serve ls lw = [] := by
  unfold Qu.serve
  cases Qu.pc ls lw <;> simp [Qu.sv, hk]
theorem Qu.serve_yes {ls : List Sl} {lw : List Wt} (h : Qu.parts ls lw = true) (hk : Sl.tkOk ls 16 = true) : Qu.serve ls lw = Sl.tkI ls :: Qu.serve (Qu.nx ls lw).1 (Qu.nx ls lw).2 := by
  have h1 := Qu.nx_pc h hk
  unfold Qu.serve
  rw [← h1, Qu.sv, hk]
  simp
theorem Qu.sv_len : ∀ (n : Nat) (ls : List Sl) (lw : List Wt), (Qu.sv n ls lw).length ≤ n
  | 0, _, _ => by simp [Qu.sv]
  | n + 1, ls, lw => by
    rw [Qu.sv]
    split
    · have := Qu.sv_len n (Qu.nx ls lw).1 (Qu.nx ls lw).2
      simp; omega
    · simp
theorem Qu.pc_le {ls : List Sl} {lw : List Wt} (h : Qu.parts ls lw = true) : Qu.pc ls lw ≤ 12 := by
  have h1 := Qu.parts_len h
  have h2 := Sl.good_len (Qu.parts_get h).1
  have h3 := List.countP_le_length (p := Sl.isP) (l := ls)
  unfold Qu.pc; omega
theorem Qu.serve_len {ls : List Sl} {lw : List Wt} (h : Qu.parts ls lw = true) : (Qu.serve ls lw).length ≤ 12 := by
  have := Qu.sv_len (Qu.pc ls lw) ls lw
  have := Qu.pc_le h
  unfold Qu.serve; omega
def Qu.svL (ls : List Sl) (lw : List Wt) : List Int := if Qu.good ls lw then Qu.serve ls lw else []
theorem Qu.svL_len (ls : List Sl) (lw : List Wt) : (Qu.svL ls lw).length ≤ 1048576 := by
  unfold Qu.svL; split
  · rename_i h; have := Qu.serve_len (Qu.good_parts h).1; omega
  · simp
theorem Qu.sv_no {ls : List Sl} {lw : List Wt} (h : Qu.good ls lw = false) : Qu.svL ls lw = [] := by simp [Qu.svL, h]
theorem Qu.sv_yes {ls : List Sl} {lw : List Wt} (h : Qu.good ls lw = true) : Qu.svL ls lw = Qu.serve ls lw := by simp [Qu.svL, h]

/-! ### all that is pending -/
def Sl.isPend (s : Sl) : Bool := s.state == 1 || s.state == 3
def Sl.pends (ls : List Sl) : List Wt := (ls.filter Sl.isPend).map Sl.wt
def Qu.all (ls : List Sl) (lw : List Wt) : List Wt := (Sl.pends ls).foldl Wt.ins lw
theorem Sl.pends_pre {l : List Sl} {k : Nat} {s : Sl} (h : l[k]? = some s) : Sl.pends (l.take (k + 1)) = Sl.pends (l.take k) ++ if Sl.isPend s then [s.wt] else [] := by
  rw [Sl.pends, List.take_add_one, h]
  simp only [Option.toList_some, List.filter_append, List.map_append, Sl.pends]
  cases hp : Sl.isPend s <;> simp [hp]
theorem Sl.pends_len (l : List Sl) : (Sl.pends l).length ≤ l.length := by
  rw [Sl.pends, List.length_map]; exact List.length_filter_le _ _
theorem Qu.all_pre {ls : List Sl} {lw : List Wt} {k : Nat} {s : Sl} (h : ls[k]? = some s) : Qu.all (ls.take (k + 1)) lw = if Sl.isPend s then Wt.ins (Qu.all (ls.take k) lw) s.wt else Qu.all (ls.take k) lw := by
  rw [Qu.all, Sl.pends_pre h, List.foldl_append]
  cases Sl.isPend s <;> rfl
theorem Qu.foldl_ins_len : ∀ (xs l : List Wt), (xs.foldl Wt.ins l).length = l.length + xs.length
  | [], l => by simp
  | x :: xs, l => by rw [List.foldl_cons, Qu.foldl_ins_len xs, Wt.ins_len, List.length_cons]; omega
theorem Qu.all_len (ls : List Sl) (lw : List Wt) : (Qu.all ls lw).length ≤ lw.length + ls.length := by
  have := Sl.pends_len ls
  rw [Qu.all, Qu.foldl_ins_len]; omega
def Qu.peL (ls : List Sl) (lw : List Wt) : List Int := if Qu.good ls lw then (Qu.all ls lw).map Wt.irq else []
theorem Qu.peL_len (ls : List Sl) (lw : List Wt) : (Qu.peL ls lw).length ≤ 1048576 := by
  unfold Qu.peL; split
  · rename_i h
    have := Qu.good_len2 h
    have := Qu.all_len ls lw
    rw [List.length_map]; omega
  · simp
theorem Qu.pe_no {ls : List Sl} {lw : List Wt} (h : Qu.good ls lw = false) : Qu.peL ls lw = [] := by simp [Qu.peL, h]
theorem Qu.pe_yes {ls : List Sl} {lw : List Wt} (h : Qu.good ls lw = true) : Qu.peL ls lw = (Qu.all ls lw).map Wt.irq := by simp [Qu.peL, h]

end Go.Proofs.Ytaggjadgbmmjoaa
