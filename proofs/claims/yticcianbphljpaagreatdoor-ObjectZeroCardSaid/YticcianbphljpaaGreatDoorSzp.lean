/- Limits, in plain terms: what the document's answer takes apart. -/
import Derived.Test.YticcianbphljpaaGreatDoorSz
namespace Go.Proofs.YticcianbphljpaaGreatDoor
theorem suf_last (l : List UInt8) (x : UInt8) : Lib.hasSuffix l [x] = (decide (0 < l.length) && l.getD (l.length - 1) 0 == x) := by
  rw [← Lib.hasSuffix_of_drop]
  rcases Nat.eq_zero_or_pos l.length with h | h
  · rw [List.eq_nil_of_length_eq_zero h]; rfl
  · have e : l.drop (l.length - 1) = [l.getD (l.length - 1) 0] := by
      rw [List.drop_eq_getElem_cons (by omega), List.drop_of_length_le (by omega)]
      simp [List.getD_eq_getElem?_getD, show l.length - 1 < l.length by omega]
    have d1 : decide (1 ≤ l.length) = true := by simp; omega
    have d2 : decide (0 < l.length) = true := by simp; omega
    simp only [List.length_singleton, d1, d2, Bool.true_and, e]
    rw [Bool.eq_iff_iff]
    simp
theorem szSuf_k {l : List UInt8} (h : 0 < l.length) (hx : l.getD (l.length - 1) 0 = 107) : szSuf l = (l.take (l.length - 1), 4652218415073722368) := by
  have e : Lib.hasSuffix l [107] = true := by rw [suf_last, hx]; simp [h]
  unfold szSuf
  rw [if_pos e]
  unfold Lib.trimSuffix
  rw [if_pos e]
  rfl
theorem szSuf_m {l : List UInt8} (h : 0 < l.length) (hx : l.getD (l.length - 1) 0 = 109) : szSuf l = (l.take (l.length - 1), 4697254411347427328) := by
  have e : Lib.hasSuffix l [109] = true := by rw [suf_last, hx]; simp [h]
  have e1 : Lib.hasSuffix l [107] = false := by rw [suf_last, hx]; simp
  unfold szSuf
  rw [if_neg (by rw [e1]; simp), if_pos e]
  unfold Lib.trimSuffix
  rw [if_pos e]
  rfl
theorem szSuf_no {l : List UInt8} (h : 0 < l.length → l.getD (l.length - 1) 0 ≠ 107 ∧ l.getD (l.length - 1) 0 ≠ 109) : szSuf l = (l, 4607182418800017408) := by
  have e1 : Lib.hasSuffix l [107] = false := by
    rw [suf_last, Bool.and_eq_false_iff]
    rcases Nat.eq_zero_or_pos l.length with h0 | h0
    · left; rw [h0]; rfl
    · right; simpa using (h h0).1
  have e2 : Lib.hasSuffix l [109] = false := by
    rw [suf_last, Bool.and_eq_false_iff]
    rcases Nat.eq_zero_or_pos l.length with h0 | h0
    · left; rw [h0]; rfl
    · right; simpa using (h h0).2
  unfold szSuf
  rw [if_neg (by rw [e1]; simp), if_neg (by rw [e2]; simp)]
/-- Where a byte stands first. -/
theorem index_first (x : UInt8) : ∀ (l : List UInt8) (p : Nat), (∀ j, j < p → l.getD j 0 ≠ x) → p < l.length → l.getD p 0 = x → Lib.index l [x] = p := by
  intro l
  induction l with
  | nil => intro p _ h; simp at h
  | cons c l ih =>
    intro p h1 h2 h3
    rw [Lib.index]
    cases p with
    | zero =>
      have : c = x := by simpa using h3
      subst this
      simp
    | succ p =>
      have hc : c ≠ x := by have := h1 0 (by omega); simpa using this
      have hp := ih p (fun j hj => by have := h1 (j + 1) (by omega); simpa using this) (by simpa using h2) (by simpa using h3)
      have e : ([x] : List UInt8).isPrefixOf (c :: l) = false := by
        rw [← Bool.not_eq_true, List.isPrefixOf_iff_prefix]
        intro h
        rw [List.cons_prefix_cons] at h
        exact hc h.1.symm
      rw [e, hp]
      have : ((p : Int) == -1) = false := by rw [beq_eq_false_iff_ne]; omega
      rw [this]
      simp
theorem index_no (x : UInt8) : ∀ (l : List UInt8), (∀ j, j < l.length → l.getD j 0 ≠ x) → Lib.index l [x] = -1 := by
  intro l
  induction l with
  | nil => intro _; rfl
  | cons c l ih =>
    intro h
    have hc : c ≠ x := by have := h 0 (by simp); simpa using this
    have hp := ih (fun j hj => by have := h (j + 1) (by simpa using hj); simpa using this)
    rw [Lib.index]
    have e : ([x] : List UInt8).isPrefixOf (c :: l) = false := by
      rw [← Bool.not_eq_true, List.isPrefixOf_iff_prefix]
      intro h
      rw [List.cons_prefix_cons] at h
      exact hc h.1.symm
    rw [e, hp]
    rfl
theorem cut_at {l : List UInt8} {x : UInt8} {p : Nat} (h1 : ∀ j, j < p → l.getD j 0 ≠ x) (h2 : p < l.length) (h3 : l.getD p 0 = x) : Lib.cut l [x] = (l.take p, l.drop (p + 1), true) := by
  unfold Lib.cut
  rw [index_first x l p h1 h2 h3, if_pos (by omega)]
  rfl
theorem cut_no {l : List UInt8} {x : UInt8} (h1 : ∀ j, j < l.length → l.getD j 0 ≠ x) : Lib.cut l [x] = (l, [], false) := by
  unfold Lib.cut
  rw [index_no x l h1, if_neg (by omega)]
theorem decFrom_snoc (c : UInt8) : ∀ (l : List UInt8) (acc : Nat), Lib.decFrom acc (l ++ [c]) = (Lib.decFrom acc l).bind fun n => (Lib.digitVal c).bind fun d => some (n * 10 + d) := by
  intro l
  induction l with
  | nil =>
    intro acc
    rw [List.nil_append, Lib.decFrom]
    cases h : Lib.digitVal c <;> simp [Lib.decFrom, h]
  | cons a l ih =>
    intro acc
    rw [List.cons_append, Lib.decFrom, Lib.decFrom]
    cases h : Lib.digitVal a
    · simp
    · simp [ih]
theorem decFrom_some (l : List UInt8) : ∀ acc, l.all isdig = true → ∃ n, Lib.decFrom acc l = some n := by
  induction l with
  | nil => intro acc _; exact ⟨acc, rfl⟩
  | cons c l ih =>
    intro acc h
    rw [List.all_cons, Bool.and_eq_true] at h
    have hc := h.1
    unfold isdig at hc
    simp only [Bool.and_eq_true, decide_eq_true_eq] at hc
    have hd : Lib.digitVal c = some (c.toNat - 48) := by unfold Lib.digitVal; rw [if_pos hc]
    rw [Lib.decFrom, hd]
    exact ih _ h.2
theorem decv_snoc {l : List UInt8} {c : UInt8} (hl : l.all isdig = true) (hc : isdig c = true) : decv (l ++ [c]) = decv l * 10 + (c.toNat - 48) := by
  obtain ⟨n, hn⟩ := decFrom_some l 0 hl
  unfold isdig at hc
  simp only [Bool.and_eq_true, decide_eq_true_eq] at hc
  have hd : Lib.digitVal c = some (c.toNat - 48) := by unfold Lib.digitVal; rw [if_pos hc]
  unfold decv
  rw [decFrom_snoc, hn, hd]
  rfl
/-- One place more of a row. -/
theorem take_snoc (l : List UInt8) (k : Nat) (h : k < l.length) : l.take (k + 1) = l.take k ++ [l.getD k 0] := by
  rw [List.take_succ_eq_append_getElem h]
  simp [List.getD_eq_getElem?_getD, h]
theorem all_snoc (l : List UInt8) (k : Nat) (h : k < l.length) (p : UInt8 → Bool) (hp : (l.take k).all p = true) (hc : p (l.getD k 0) = true) : (l.take (k + 1)).all p = true := by
  rw [take_snoc l k h, List.all_append, hp]
  simpa using hc
theorem all_not (l : List UInt8) (k : Nat) (h : k < l.length) (p : UInt8 → Bool) (hc : p (l.getD k 0) = false) : l.all p = false := by
  rw [← Bool.not_eq_true, List.all_eq_true]
  intro ha
  have e : l.getD k 0 = l[k] := by simp [List.getD_eq_getElem?_getD, h]
  rw [e, ha _ (List.getElem_mem h)] at hc
  cases hc
end Go.Proofs.YticcianbphljpaaGreatDoor
