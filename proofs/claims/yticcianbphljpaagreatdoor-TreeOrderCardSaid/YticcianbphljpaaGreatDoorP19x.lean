/- Names of which none stands twice: as many as there are in order. Entries in their order, plain: one put in at its place; two of them changed about. -/
import Derived.Test.YticcianbphljpaaGreatDoorP4x
namespace Go.Proofs.YticcianbphljpaaGreatDoor
theorem insI_len_new (l : List Idt) (x : Idt) (h : x ∉ l) : (insI l x).length = l.length + 1 := by
  induction l with
  | nil => rfl
  | cons y r ih =>
    rw [List.mem_cons, not_or] at h
    unfold insI
    split
    · simp [ih h.2]
    · rw [if_neg (fun e => h.1 e.symm)]
      rfl
theorem sortI_new (l : List Idt) (k : Nat) (hk : k ≤ l.length) (h : ∀ j, j < k → l[j]! ∉ l.take j) : (sortI (l.take k)).length = k := by
  induction k with
  | zero => rw [← putI_eq]; rfl
  | succ k ih =>
    have h1 := ih (by omega) (fun j hj => h j (by omega))
    have e : l.take (k + 1) = l.take k ++ [l[k]!] := by
      rw [List.take_succ_eq_append_getElem (by omega), getElem!_pos l k (by omega)]
    rw [e, ← putI_eq, putI_snoc, insI_len_new, putI_eq, h1]
    rw [putI_eq, (sortI_holds _).2]
    exact h k (by omega)
theorem sortI_twice (l : List Idt) (k : Nat) (hk : k < l.length) (h : l[k]! ∈ l.take k) : (sortI l).length ≠ l.length := by
  have hl : l = l.take k ++ l[k]! :: l.drop (k + 1) := by
    conv => lhs; rw [← List.take_append_drop k l, List.drop_eq_getElem_cons hk]
    rw [getElem!_pos l k hk]
  have e : sortI l = sortI (l.take k ++ l.drop (k + 1)) := rises_ext _ _ (sortI_holds _).1 (sortI_holds _).1 fun x => by
    rw [(sortI_holds _).2, (sortI_holds _).2]
    constructor
    · intro hx
      rw [hl] at hx
      rcases List.mem_append.1 hx with h1 | h1
      · exact List.mem_append_left _ h1
      · rcases List.mem_cons.1 h1 with rfl | h2
        · exact List.mem_append_left _ h
        · exact List.mem_append_right _ h2
    · intro hx
      rcases List.mem_append.1 hx with h1 | h1
      · exact List.mem_of_mem_take h1
      · exact List.mem_of_mem_drop h1
  have := sortI_len (l.take k ++ l.drop (k + 1))
  rw [← e, List.length_append, List.length_take, List.length_drop] at this
  omega
end Go.Proofs.YticcianbphljpaaGreatDoor
namespace Go.Proofs.YticcianbphljpaaGreatDoor
theorem nlt_cmp : ∀ a b, Op.bytesLess a b = decide (Lib.compareBytes a b < 0)
  | [], [] => by simp [Op.bytesLess, Lib.compareBytes]
  | [], _ :: _ => by simp [Op.bytesLess, Lib.compareBytes]
  | _ :: _, [] => by simp [Op.bytesLess, Lib.compareBytes]
  | x :: a, y :: b => by
    have ih := nlt_cmp a b
    unfold Op.bytesLess Lib.compareBytes
    rw [ih]
    by_cases h1 : x < y
    · simp [h1]
    · by_cases h2 : y < x
      · have h3 : ¬ x = y := fun e => by subst e; exact h1 h2
        simp [h1, h2, h3]
      · have h3 : x = y := UInt8.le_antisymm (UInt8.not_lt.1 h2) (UInt8.not_lt.1 h1)
        simp [h3]
theorem nlt_self (a : List UInt8) : Op.bytesLess a a = false := by rw [nlt_cmp, cmp_self]; rfl
theorem nlt_trans {a b c : List UInt8} (h1 : Op.bytesLess a b = true) (h2 : Op.bytesLess b c = true) : Op.bytesLess a c = true := by
  rw [nlt_cmp, decide_eq_true_eq] at h1 h2 ⊢
  exact cmp_trans a b c h1 h2
theorem nlt_total {a b : List UInt8} (h1 : Op.bytesLess a b = false) (h2 : a ≠ b) : Op.bytesLess b a = true := by
  rw [nlt_cmp, decide_eq_false_iff_not] at h1
  rw [nlt_cmp, decide_eq_true_eq, cmp_neg a b]
  have h3 : Lib.compareBytes a b ≠ 0 := fun e => h2 (cmp_zero a b e)
  omega
/-- Entries with right names, in order. -/
def GoodE (l : List Ent) : Prop := (∀ e ∈ l, nameB e.nm = true) ∧ l.Pairwise fun x y => Op.bytesLess x.nm y.nm = true
theorem goodE_nil : GoodE [] := ⟨fun _ h => (List.not_mem_nil h).elim, List.Pairwise.nil⟩
theorem goodE_may {l : List Ent} (h : GoodE l) : mayT l = decide (l.length ≤ 20) := by
  refine mayT_all fun i hi => ?_
  unfold entOk
  rw [getElem!_pos l i hi, h.1 _ (List.getElem_mem hi), Bool.true_and]
  by_cases h0 : i = 0
  · rw [decide_eq_true h0]; rfl
  · rw [decide_eq_false h0, Bool.false_or, getElem!_pos l (i - 1) (by omega)]
    exact List.pairwise_iff_getElem.1 h.2 (i - 1) i (by omega) hi (by omega)
/-- One put in. -/
def insE (l : List Ent) (k : Nat) (e : Ent) : List Ent := l.take k ++ [e] ++ l.drop k
theorem insE_len (l : List Ent) (k : Nat) (e : Ent) : (insE l k e).length = l.length + 1 := by
  unfold insE
  simp only [List.length_append, List.length_take, List.length_drop, List.length_singleton]
  omega
theorem insE_mem {l : List Ent} {k : Nat} {e x : Ent} (h : x ∈ insE l k e) : x ∈ l ∨ x = e := by
  unfold insE at h
  rcases List.mem_append.1 h with h1 | h1
  · rcases List.mem_append.1 h1 with h2 | h2
    · exact .inl (List.mem_of_mem_take h2)
    · exact .inr (by simpa using h2)
  · exact .inl (List.mem_of_mem_drop h1)
theorem goodE_ins {l : List Ent} (h : GoodE l) (k : Nat) (e : Ent) (hk : k ≤ l.length) (hn : nameB e.nm = true) (h1 : ∀ j, j < k → Op.bytesLess l[j]!.nm e.nm = true) (h2 : k < l.length → Op.bytesLess l[k]!.nm e.nm = false ∧ l[k]!.nm ≠ e.nm) : GoodE (insE l k e) := by
  refine ⟨fun x hx => ?_, ?_⟩
  · rcases insE_mem hx with h3 | rfl
    · exact h.1 x h3
    · exact hn
  · have hlow : ∀ x ∈ l.take k, Op.bytesLess x.nm e.nm = true := fun x hx => by
      obtain ⟨j, hj, rfl⟩ := List.getElem_of_mem hx
      rw [List.length_take] at hj
      rw [List.getElem_take]
      have := h1 j (by omega)
      rwa [getElem!_pos l j (by omega)] at this
    have hhigh : ∀ y ∈ l.drop k, Op.bytesLess e.nm y.nm = true := fun y hy => by
      obtain ⟨j, hj, rfl⟩ := List.getElem_of_mem hy
      rw [List.length_drop] at hj
      rw [List.getElem_drop]
      obtain ⟨h3, h4⟩ := h2 (by omega)
      rw [getElem!_pos l k (by omega)] at h3 h4
      have h5 := nlt_total h3 h4
      by_cases h0 : j = 0
      · subst h0; exact h5
      · exact nlt_trans h5 (List.pairwise_iff_getElem.1 h.2 k (k + j) (by omega) (by omega) (by omega))
    unfold insE
    rw [List.append_assoc, List.pairwise_append]
    refine ⟨h.2.sublist (List.take_sublist k l), ?_, ?_⟩
    · rw [List.singleton_append, List.pairwise_cons]
      exact ⟨hhigh, h.2.sublist (List.drop_sublist k l)⟩
    · intro x hx y hy
      rw [List.singleton_append, List.mem_cons] at hy
      rcases hy with rfl | hy
      · exact hlow x hx
      · exact nlt_trans (hlow x hx) (hhigh y hy)
theorem may_rises {m : List Ent} (h : mayT m = true) : ∀ j i, i < j → j < m.length → Op.bytesLess m[i]!.nm m[j]!.nm = true := by
  have hok : ∀ j, j + 1 < m.length → Op.bytesLess m[j]!.nm m[j + 1]!.nm = true := fun j hj => by
    have h2 : (List.range m.length).all (entOk m) = true := by
      unfold mayT at h
      rw [Bool.and_eq_true] at h
      exact h.1
    have h3 := List.all_eq_true.1 h2 (j + 1) (List.mem_range.2 hj)
    unfold entOk at h3
    rw [Bool.and_eq_true, decide_eq_false (by omega), Bool.false_or] at h3
    exact h3.2
  intro j
  induction j with
  | zero => intro i hi; omega
  | succ j ih =>
    intro i hi hj
    by_cases e : i = j
    · subst e; exact hok i hj
    · exact nlt_trans (ih i (by omega) (by omega)) (hok j hj)
theorem swap_at {l m : List Ent} {i k : Nat} (hm : m = (l.set i l[k]!).set k l[i]!) (hi : i < l.length) (hk : k < l.length) : m.length = l.length ∧ m[k]! = l[i]! ∧ m[i]! = l[k]! := by
  have h0 : m.length = l.length := by rw [hm]; simp
  refine ⟨h0, ?_, ?_⟩
  · rw [getElem!_pos m k (by omega)]
    simp only [hm, List.getElem_set_self]
  · rw [getElem!_pos m i (by omega)]
    simp only [hm]
    by_cases e : k = i
    · subst e; simp
    · rw [List.getElem_set_ne e, List.getElem_set_self]
theorem swap_may {l : List Ent} (h : GoodE l) (h20 : l.length ≤ 20) (i k : Nat) (hi : i < l.length) (hk : k < l.length) : mayT ((l.set i l[k]!).set k l[i]!) = decide (i = k) := by
  by_cases e : i = k
  · subst e
    have : (l.set i l[i]!).set i l[i]! = l := by
      rw [getElem!_pos l i hi]
      simp
    rw [this, goodE_may h, decide_eq_true h20, decide_eq_true rfl]
  · rw [decide_eq_false e]
    obtain ⟨m, hm⟩ : ∃ m, m = (l.set i l[k]!).set k l[i]! := ⟨_, rfl⟩
    rw [← hm]
    obtain ⟨a1, a2, a3⟩ := swap_at hm hi hk
    cases hc : mayT m with
    | false => rfl
    | true =>
      exfalso
      have hr := may_rises hc
      have hp : ∀ a b, a < b → b < l.length → Op.bytesLess l[a]!.nm l[b]!.nm = true := fun a b hab hb => by
        rw [getElem!_pos l a (by omega), getElem!_pos l b hb]
        exact List.pairwise_iff_getElem.1 h.2 a b (by omega) hb hab
      rcases Nat.lt_or_gt_of_ne e with hlt | hlt
      · have h1 := hr k i hlt (by omega)
        rw [a2, a3] at h1
        have h2 := nlt_trans h1 (hp i k hlt hk)
        rw [nlt_self] at h2
        cases h2
      · have h1 := hr i k hlt (by omega)
        rw [a2, a3] at h1
        have h2 := nlt_trans h1 (hp k i hlt hi)
        rw [nlt_self] at h2
        cases h2
end Go.Proofs.YticcianbphljpaaGreatDoor
