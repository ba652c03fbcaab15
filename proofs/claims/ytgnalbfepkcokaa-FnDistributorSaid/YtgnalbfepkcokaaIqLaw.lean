/- The ready interrupts in the order of their urgency, in plain terms. No condition. -/
import Derived.Test.YtgnalbfepkcokaaIqServe
import Derived.Test.YtgnalbfepkcokaaIqOps
namespace Go.Proofs.Ytgnalbfepkcokaa

theorem pw_ext {α : Type} {R : α → α → Prop} (asym : ∀ a b, R a b → ¬ R b a) : ∀ a b : List α, a.Pairwise R → b.Pairwise R → (∀ x, x ∈ a ↔ x ∈ b) → a = b
  | [], [], _, _, _ => rfl
  | [], y :: b, _, _, h => absurd ((h y).2 (by simp)) (by simp)
  | x :: a, [], _, _, h => absurd ((h x).1 (by simp)) (by simp)
  | x :: a, y :: b, ha, hb, h => by
    rw [List.pairwise_cons] at ha hb
    have irr : ∀ c, ¬ R c c := fun c hc => asym c c hc hc
    have e : x = y := by
      rcases List.mem_cons.1 ((h x).1 (by simp)) with e | h1
      · exact e
      · rcases List.mem_cons.1 ((h y).2 (by simp)) with e | h2
        · exact e.symm
        · exact absurd (hb.1 x h1) (asym _ _ (ha.1 y h2))
    subst e
    rw [pw_ext asym a b ha.2 hb.2 (fun z => ?_)]
    constructor
    · intro hz
      rcases List.mem_cons.1 ((h z).1 (by simp [hz])) with e | h1
      · subst e; exact absurd (ha.1 z hz) (irr z)
      · exact h1
    · intro hz
      rcases List.mem_cons.1 ((h z).2 (by simp [hz])) with e | h1
      · subst e; exact absurd (hb.1 z hz) (irr z)
      · exact h1
def Iq.R (l : List Iq) (x y : Int) : Prop := Iq.prL l x < Iq.prL l y ∨ (Iq.prL l x = Iq.prL l y ∧ x < y)
theorem Iq.R_asym (l : List Iq) (x y : Int) (h : Iq.R l x y) : ¬ Iq.R l y x := by unfold Iq.R at *; omega
theorem insK_cons {α : Type} {lt : α → α → Bool} (y x : α) (l : List α) : insK lt (y :: l) x = if (bk lt x l = 0 && lt x y) = true then x :: y :: l else y :: insK lt l x := by
  by_cases h : (decide (bk lt x l = 0) && lt x y) = true
  · simp [insK, bk, h]
  · simp [insK, bk, h]
theorem bk_zero {α : Type} {lt : α → α → Bool} (x : α) : ∀ l : List α, (∀ z ∈ l, lt x z = true) → bk lt x l = 0
  | [], _ => rfl
  | y :: l, h => by
    have ih := bk_zero x l (fun z hz => h z (by simp [hz]))
    simp [bk, ih, h y (by simp)]
theorem Iq.insK_R {l : List Iq} {x : Int} : ∀ {acc : List Int}, acc.Pairwise (Iq.R l) → (∀ y ∈ acc, y < x) → (insK (Iq.ltp l) acc x).Pairwise (Iq.R l)
  | [], _, _ => by simp [insK]
  | y :: acc, h, hx => by
    rw [List.pairwise_cons] at h
    rw [insK_cons]
    split
    · rename_i hc
      simp only [Bool.and_eq_true, decide_eq_true_eq, Iq.ltp] at hc
      rw [List.pairwise_cons]
      refine ⟨fun z hz => ?_, List.pairwise_cons.2 h⟩
      rcases List.mem_cons.1 hz with rfl | hz
      · exact .inl hc.2
      · have := h.1 z hz
        unfold Iq.R at *
        omega
    · rename_i hc
      rw [List.pairwise_cons]
      refine ⟨fun z hz => ?_, Iq.insK_R h.2 (fun z hz => hx z (by simp [hz]))⟩
      rcases insK_mem hz with rfl | hz
      · have hyx := hx y (by simp)
        by_cases hb : bk (Iq.ltp l) z acc = 0
        · simp only [hb, decide_true, Bool.true_and, Iq.ltp, decide_eq_true_eq] at hc
          unfold Iq.R; omega
        · have : ¬ ∀ u ∈ acc, Iq.ltp l z u = true := fun hu => hb (bk_zero z acc hu)
          simp only [Classical.not_forall] at this
          obtain ⟨u, hu, h2⟩ := this
          have h3 := h.1 u hu
          simp only [Iq.ltp, decide_eq_true_eq] at h2
          unfold Iq.R at *
          omega
      · exact h.1 z hz
theorem Iq.fold_R {l : List Iq} : ∀ (xs acc : List Int), acc.Pairwise (Iq.R l) → xs.Pairwise (· < ·) → (∀ a ∈ acc, ∀ x ∈ xs, a < x) → (xs.foldl (insK (Iq.ltp l)) acc).Pairwise (Iq.R l)
  | [], acc, h, _, _ => h
  | x :: xs, acc, h, hx, ha => by
    rw [List.pairwise_cons] at hx
    refine Iq.fold_R xs _ (Iq.insK_R h (fun y hy => ha y hy x (by simp))) hx.2 (fun a h1 z hz => ?_)
    rcases insK_mem h1 with rfl | h1
    · exact hx.1 z hz
    · exact ha a h1 z (by simp [hz])
theorem irqsL_asc (p : Nat → Bool) (k : Nat) : (irqsL p k).Pairwise (· < ·) := by
  unfold irqsL
  rw [List.pairwise_map]
  exact (List.pairwise_lt_range.filter p).imp (fun h => by omega)
theorem Iq.all_R (l : List Iq) (cpu : Int) : (Iq.all l cpu).Pairwise (Iq.R l) :=
  Iq.fold_R _ [] List.Pairwise.nil (irqsL_asc _ _) (fun a h => by simp at h)
theorem Iq.nth_set (l : List Iq) (k : Nat) (t : Iq) (i : Nat) : Iq.nth (l.set k t) i = if k = i ∧ k < l.length then t else Iq.nth l i := by
  simp only [Iq.nth, List.getD_eq_getElem?_getD, List.getElem?_set]
  by_cases h : k = i
  · subst h
    by_cases h2 : k < l.length
    · simp [h2]
    · simp [h2, List.getElem?_eq_none (Nat.le_of_not_lt h2)]
  · simp [h]
theorem Iq.all_begin {l : List Iq} {cpu : Int} {k : Nat} {t : Iq} {tl : List Int} (ht : l[k]? = some t) (ha : Iq.all l cpu = (k : Int) :: tl) : Iq.all (l.set k t.begun) cpu = tl := by
  have hk := (List.getElem?_eq_some_iff.1 ht).1
  have hp : ∀ x, Iq.prL (l.set k t.begun) x = Iq.prL l x := fun x => by
    unfold Iq.prL
    rw [Iq.nth_set]
    split
    · rename_i h
      rw [← h.1, Iq.nth_at ht]; rfl
    · rfl
  have hR : Iq.R (l.set k t.begun) = Iq.R l := by
    funext x y
    unfold Iq.R
    rw [hp x, hp y]
  have h1 := Iq.all_R (l.set k t.begun) cpu
  rw [hR] at h1
  have h2 := Iq.all_R l cpu
  rw [ha, List.pairwise_cons] at h2
  refine pw_ext (Iq.R_asym l) _ _ h1 h2.2 (fun x => ?_)
  have hm := Iq.all_mem l cpu x
  rw [ha, List.mem_cons] at hm
  rw [Iq.all_mem, List.length_set]
  have hrd : ∀ i : Nat, Iq.rdyP (l.set k t.begun) cpu i = (Iq.rdyP l cpu i && !(i == k)) := fun i => by
    unfold Iq.rdyP
    rw [Iq.nth_set]
    by_cases e : k = i
    · subst e
      simp [hk, Iq.rdy, Iq.begun]
    · have : (i == k) = false := by simpa using Ne.symm e
      simp [e, this]
  constructor
  · rintro ⟨i, hi, h3, rfl⟩
    rw [hrd, Bool.and_eq_true] at h3
    obtain ⟨h3, h4⟩ := h3
    rcases hm.2 ⟨i, hi, h3, rfl⟩ with e | h5
    · exact absurd (by omega : i = k) (by simpa using h4)
    · exact h5
  · intro hx
    obtain ⟨i, hi, h3, e⟩ := hm.1 (.inr hx)
    refine ⟨i, hi, ?_, e⟩
    rw [hrd, h3, Bool.true_and]
    have hne : ¬ i = k := fun e2 => by
      have h5 := h2.1 x hx
      rw [← e, e2] at h5
      exact Iq.R_asym l _ _ h5 h5
    simpa using hne
theorem Iq.head_begin {l : List Iq} {cpu x : Int} {tl : List Int} (hg : Iq.good l = true) (ha : Iq.all l cpu = x :: tl) : ∃ (k : Nat) (t : Iq), x = k ∧ k ≤ 7 ∧ l[k]? = some t ∧ t.rdy = true ∧ Iq.doOk l k Iq.rdy Iq.begun = true ∧ Iq.doR l k Iq.rdy Iq.begun = l.set k t.begun ∧ Iq.good (l.set k t.begun) = true ∧ Iq.all (l.set k t.begun) cpu = tl := by
  obtain ⟨k, hk, hr, e⟩ := (Iq.all_mem l cpu x).1 (by rw [ha]; simp)
  have h8 := Iq.good_len hg
  have ht : l[k]? = some l[k] := List.getElem?_eq_getElem hk
  have hok := Iq.good_ok hg ht
  rw [Iq.rdyP, Iq.nth_at ht, Bool.and_eq_true] at hr
  have hin : inB (k : Int) 0 7 = true := by rw [inB_iff]; omega
  have hd : Iq.doOk l k Iq.rdy Iq.begun = true := by
    simp only [Iq.doOk, Iq.asked, hg, hin, Iq.at_get ht, hr.1, Bool.true_and]
    exact Iq.ok_begun hok
  refine ⟨k, l[k], e.symm, by omega, ht, hr.1, hd, (Iq.do_yes ht hd).2, by rw [Iq.good_set _ hg hk]; exact Iq.ok_begun hok, Iq.all_begin ht (by rw [ha, e])⟩
theorem Iq.sv1_nth (o : List Iq) (x : Int) (i : Nat) : (Iq.nth (Iq.sv1 o x) i).target = (Iq.nth o i).target ∧ ((Iq.nth (Iq.sv1 o x) i).rdy = true → (Iq.nth o i).rdy = true ∧ (i < o.length → x.toNat ≠ i)) := by
  unfold Iq.sv1
  rw [Iq.nth_set]
  split
  · rename_i h
    rw [h.1]
    exact ⟨rfl, fun h => by simp [Iq.rdy, Iq.setP] at h⟩
  · rename_i h
    exact ⟨rfl, fun h2 => ⟨h2, fun h3 e => h ⟨e, by omega⟩⟩⟩
theorem Iq.sv1_len (o : List Iq) (x : Int) : (Iq.sv1 o x).length = o.length := by simp [Iq.sv1]
theorem Iq.served_nth : ∀ (xs : List Int) (o : List Iq) (i : Nat), (Iq.nth (Iq.served o xs) i).target = (Iq.nth o i).target ∧ ((Iq.nth (Iq.served o xs) i).rdy = true → (Iq.nth o i).rdy = true ∧ (i < o.length → ∀ x ∈ xs, x.toNat ≠ i))
  | [], o, i => ⟨rfl, fun h => ⟨h, fun _ x hx => by simp at hx⟩⟩
  | x :: xs, o, i => by
    have ih := Iq.served_nth xs (Iq.sv1 o x) i
    have h1 := Iq.sv1_nth o x i
    rw [show Iq.served o (x :: xs) = Iq.served (Iq.sv1 o x) xs from rfl]
    refine ⟨ih.1.trans h1.1, fun h => ?_⟩
    obtain ⟨h2, h3⟩ := ih.2 h
    obtain ⟨h4, h5⟩ := h1.2 h2
    refine ⟨h4, fun hi y hy => ?_⟩
    rcases List.mem_cons.1 hy with rfl | hy
    · exact h5 hi
    · exact h3 (by rw [Iq.sv1_len]; exact hi) y hy
theorem Iq.served_good : ∀ (xs : List Int) (o : List Iq), Iq.good o = true → Iq.good (Iq.served o xs) = true
  | [], _, h => h
  | x :: xs, o, h => by
    rw [show Iq.served o (x :: xs) = Iq.served (Iq.sv1 o x) xs from rfl]
    refine Iq.served_good xs _ ?_
    unfold Iq.sv1
    by_cases hx : x.toNat < o.length
    · rw [Iq.good_set _ h hx]
      have ht : o[x.toNat]? = some o[x.toNat] := List.getElem?_eq_getElem hx
      rw [Iq.nth_at ht]
      exact Iq.ok_setP (Iq.good_ok h ht)
    · rw [List.set_eq_of_length_le (by omega)]; exact h
theorem Iq.served_none {l : List Iq} {cpu : Int} (h : Iq.rdOk l cpu = true) : Iq.rdOk (Iq.svR l cpu) cpu = true ∧ Iq.most (Iq.svR l cpu) cpu = -1 := by
  obtain ⟨hg, hc⟩ := Iq.rd_get h
  have e : Iq.svR l cpu = Iq.served l (Iq.all l cpu) := by simp [Iq.svR, h]
  have hr : Iq.rdOk (Iq.svR l cpu) cpu = true := by
    rw [e]
    simp [Iq.rdOk, Iq.served_good _ _ hg, hc]
  refine ⟨hr, Iq.most_nil hr ?_⟩
  cases ha : Iq.all (Iq.svR l cpu) cpu with
  | nil => rfl
  | cons x tl =>
    exfalso
    obtain ⟨i, hi, h1, e2⟩ := (Iq.all_mem _ cpu x).1 (by rw [ha]; simp)
    rw [e, Iq.served_len] at hi
    rw [e, Iq.rdyP, Bool.and_eq_true] at h1
    obtain ⟨h2, h3⟩ := Iq.served_nth (Iq.all l cpu) l i
    rw [h2] at h1
    obtain ⟨h4, h5⟩ := h3 h1.1
    have hm : (i : Int) ∈ Iq.all l cpu := (Iq.all_mem l cpu i).2 ⟨i, hi, by rw [Iq.rdyP, h4, Bool.true_and]; exact h1.2, rfl⟩
    exact h5 hi _ hm (by simp)
theorem Iq.all_at {l : List Iq} {cpu x : Int} (h : x ∈ Iq.all l cpu) : ∃ (k : Nat) (t : Iq), x = k ∧ k < l.length ∧ l[k]? = some t ∧ Iq.prL l x = t.prio := by
  obtain ⟨k, hk, _, e⟩ := (Iq.all_mem l cpu x).1 h
  have ht : l[k]? = some l[k] := List.getElem?_eq_getElem hk
  exact ⟨k, l[k], e.symm, hk, ht, by rw [← e]; exact Iq.prL_at ht⟩

end Go.Proofs.Ytgnalbfepkcokaa
