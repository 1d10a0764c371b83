/- line, in plain terms: what was put is got; lines up to a flush; what is cut off. -/
import Derived.Test.YtpfoohfgochaiaaGreatDoorLe
namespace Go.Proofs.YtpfoohfgochaiaaGreatDoor
theorem hv_hexd (n : Nat) (h : n < 16) : hv (hexd n) = n := by
  have : ∀ m : Fin 16, hv (hexd m.val) = (m.val : Int) := by decide +kernel
  exact this ⟨n, h⟩
theorem hstep_hexd (m n : Nat) (h : n < 16) : hstep (some m) (hexd n) = some (m * 16 + n) := by
  unfold hstep
  rw [Option.bind_some, hv_hexd n h, if_neg (by omega)]
  rfl
theorem hnum_hx4 (n : Nat) (h : n < 65536) : hnum (hx4 n) = some n := by
  unfold hnum hx4
  simp only [List.foldl_cons, List.foldl_nil]
  rw [hstep_hexd _ _ (by omega), hstep_hexd _ _ (by omega), hstep_hexd _ _ (by omega), hstep_hexd _ _ (by omega)]
  congr 1
  omega
/-- A part of the digits is a number still. -/
theorem hnum_part (n k : Nat) : ∃ m, hnum ((hx4 n).take k) = some m := by
  have h0 : hnum (hx4 n) = hnum ((hx4 n).take k ++ (hx4 n).drop k) := by rw [List.take_append_drop]
  cases h : hnum ((hx4 n).take k) with
  | some m => exact ⟨m, rfl⟩
  | none =>
    rw [hnum_none _ _ h] at h0
    unfold hnum hx4 at h0
    simp only [List.foldl_cons, List.foldl_nil] at h0
    rw [hstep_hexd _ _ (by omega), hstep_hexd _ _ (by omega), hstep_hexd _ _ (by omega), hstep_hexd _ _ (by omega)] at h0
    cases h0
theorem hx4_len (n : Nat) : (hx4 n).length = 4 := rfl
/-- The number ahead of a wire that begins with four good digits. -/
theorem numR_head (n : Nat) (z : List UInt8) (hm : lmay n = true) (hn : n ≤ 1004) : numR (hx4 n ++ z) = (n, 0) := by
  unfold numR
  rw [List.take_left' (hx4_len n), hnum_hx4 n (by omega)]
  simp only [List.length_append, hx4_len, hm, Bool.and_true]
  rw [if_pos (by simp)]
/-- What is cut off within the digits. -/
theorem numR_part (n k : Nat) (hm : lmay n = true) (hn : n ≤ 1004) (hk : k < 4) : numR ((hx4 n).take k) = (0, 2) := by
  have hl : ((hx4 n).take k).length = k := by rw [List.length_take, hx4_len]; omega
  unfold numR
  rw [List.take_of_length_le (by omega)]
  obtain ⟨m, h⟩ := hnum_part n k
  rw [h]
  have hb : lbegins ((hx4 n).take k) = true := someB (n := n) (by omega) (by
    rw [hm, Bool.true_and]
    unfold Lib.hasPrefix
    rw [List.isPrefixOf_iff_prefix]
    exact List.take_prefix _ _)
  simp only [hl, hb, Bool.and_true]
  rw [if_neg (by simp; omega), if_pos (by simpa using hk)]
/-- A line as it stands on the wire: its text, or no text for what stands between. -/
def itemL (t : List UInt8) : List UInt8 := if 1 ≤ t.length then hx4 (t.length + 4) ++ t else hx4 1
theorem itemL_len (t : List UInt8) : 4 ≤ (itemL t).length := by
  unfold itemL; split
  · rw [List.length_append, hx4_len]; omega
  · rw [hx4_len]; omega
theorem lmay_of {n : Nat} (h : n = 0 ∨ n = 1 ∨ (4 < n ∧ n ≤ 1004)) : lmay n = true := by
  unfold lmay
  rcases h with rfl | rfl | ⟨h1, h2⟩
  · rfl
  · rfl
  · simp [h1, h2]
theorem getR_put (t z : List UInt8) (h1 : 1 ≤ t.length) (h2 : t.length ≤ 1000) : getR (hx4 (t.length + 4) ++ t ++ z) = (1, t, t.length + 4, 0) := by
  rw [List.append_assoc]
  unfold getR
  rw [numR_head _ _ (lmay_of (.inr (.inr ⟨by omega, by omega⟩))) (by omega)]
  simp only [ne_eq, not_true, if_false]
  rw [if_neg (by omega), if_neg (by omega), if_neg (by simp only [List.length_append, hx4_len]; omega)]
  have e : (hx4 (t.length + 4) ++ (t ++ z)).take (t.length + 4) = hx4 (t.length + 4) ++ t := by
    rw [← List.append_assoc]; exact List.take_left' (by simp only [List.length_append, hx4_len]; omega)
  rw [e, List.drop_left' (hx4_len _)]
theorem getR_flush (z : List UInt8) : getR (hx4 0 ++ z) = (2, [], 4, 0) := by
  unfold getR
  rw [numR_head 0 z rfl (by omega)]
  rfl
theorem getR_delim (z : List UInt8) : getR (hx4 1 ++ z) = (3, [], 4, 0) := by
  unfold getR
  rw [numR_head 1 z rfl (by omega)]
  rfl
theorem getR_item (t z : List UInt8) (h2 : t.length ≤ 1000) : ∃ k, k ≠ 2 ∧ getR (itemL t ++ z) = (k, t, (itemL t).length, 0) := by
  unfold itemL
  by_cases h : 1 ≤ t.length
  · rw [if_pos h, getR_put t z h h2]
    exact ⟨1, by omega, by rw [List.length_append, hx4_len, Nat.add_comm]⟩
  · rw [if_neg h, getR_delim]
    have : t = [] := List.eq_nil_of_length_eq_zero (by omega)
    subst this
    exact ⟨3, by omega, rfl⟩
/-- A wire that is cut off within its first line is not whole. -/
theorem getR_cut (n : Nat) (t : List UInt8) (k : Nat) (hn : (n = 0 ∨ n = 1) ∧ t = [] ∨ n = t.length + 4 ∧ 1 ≤ t.length ∧ t.length ≤ 1000) (hk : k < 4 + t.length) :
    getR ((hx4 n ++ t).take k) = (0, [], 0, 2) := by
  have hm : lmay n = true ∧ n ≤ 1004 := by
    rcases hn with ⟨h | h, _⟩ | ⟨h1, h2, h3⟩
    · subst h; exact ⟨rfl, by omega⟩
    · subst h; exact ⟨rfl, by omega⟩
    · exact ⟨lmay_of (.inr (.inr ⟨by omega, by omega⟩)), by omega⟩
  rcases Nat.lt_or_ge k 4 with h4 | h4
  · have e : (hx4 n ++ t).take k = (hx4 n).take k := List.take_append_of_le_length (by rw [hx4_len]; omega)
    rw [e]
    unfold getR
    rw [numR_part n k hm.1 hm.2 h4]
    rfl
  · have e : (hx4 n ++ t).take k = hx4 n ++ t.take (k - 4) := by rw [List.take_append, List.take_of_length_le (by rw [hx4_len]; omega), hx4_len]
    rw [e]
    unfold getR
    rw [numR_head n _ hm.1 hm.2]
    rcases hn with ⟨_, rfl⟩ | ⟨h1, h2, h3⟩
    · simp at hk; omega
    · simp only [ne_eq, not_true, if_false]
      rw [if_neg (by omega), if_neg (by omega), if_pos (by simp only [List.length_append, hx4_len, List.length_take]; omega)]
theorem getR_cut_item (t : List UInt8) (k : Nat) (h2 : t.length ≤ 1000) (hk : k < (itemL t).length) : getR ((itemL t).take k) = (0, [], 0, 2) := by
  unfold itemL at hk ⊢
  by_cases h : 1 ≤ t.length
  · rw [if_pos h] at hk ⊢
    exact getR_cut _ t k (.inr ⟨rfl, h, h2⟩) (by rw [List.length_append, hx4_len] at hk; exact hk)
  · rw [if_neg h] at hk ⊢
    have := getR_cut 1 [] k (.inl ⟨.inr rfl, rfl⟩) (by rw [hx4_len] at hk; simpa using hk)
    rwa [List.append_nil] at this
/-- Lines, and a flush. -/
def wireL : List (List UInt8) → List UInt8
  | [] => hx4 0
  | t :: ts => itemL t ++ wireL ts
theorem allR_wire (z : List UInt8) (ts : List (List UInt8)) : ∀ (l : List UInt8) (a : Nat) (acc : List (List UInt8)), (∀ t ∈ ts, t.length ≤ 1000) → l.drop a = wireL ts ++ z →
    allR l a acc = (acc ++ ts, a + (wireL ts).length, 0) := by
  induction ts with
  | nil =>
    intro l a acc _ h
    rw [allR, h]
    unfold wireL
    rw [getR_flush]
    simp [hx4_len]
  | cons t ts ih =>
    intro l a acc hs h
    obtain ⟨k, hk, hg⟩ := getR_item t (wireL ts ++ z) (hs t (List.mem_cons_self ..))
    have hd : l.drop a = itemL t ++ (wireL ts ++ z) := by rw [h, wireL, List.append_assoc]
    have hla : ¬ l.length < a := by
      intro hlt
      rw [List.drop_of_length_le (by omega)] at hd
      have := congrArg List.length hd
      simp only [List.length_nil, List.length_append] at this
      have := itemL_len t
      omega
    rw [allR, hd, hg]
    simp only [dite_true, if_neg hk, if_neg hla]
    rw [ih l _ _ (fun u hu => hs u (List.mem_cons_of_mem _ hu)) (by rw [← List.drop_drop, hd, List.drop_left' rfl])]
    rw [wireL, List.length_append, List.append_assoc, Nat.add_assoc]
    rfl
theorem allR_cut (ts : List (List UInt8)) : ∀ (l : List UInt8) (a k : Nat) (acc : List (List UInt8)), (∀ t ∈ ts, t.length ≤ 1000) → k < (wireL ts).length → l.drop a = (wireL ts).take k →
    allR l a acc = ([], 0, 2) := by
  induction ts with
  | nil =>
    intro l a k acc _ hk h
    have := getR_cut 0 [] k (.inl ⟨.inl rfl, rfl⟩) (by rw [wireL, hx4_len] at hk; simpa using hk)
    rw [List.append_nil] at this
    rw [allR, h, wireL, this]
    rfl
  | cons t ts ih =>
    intro l a k acc hs hk h
    have ht := hs t (List.mem_cons_self ..)
    rcases Nat.lt_or_ge k (itemL t).length with h1 | h1
    · rw [wireL, List.take_append_of_le_length (by omega)] at h
      rw [allR, h, getR_cut_item t k ht h1]
      rfl
    · have hd : l.drop a = itemL t ++ (wireL ts).take (k - (itemL t).length) := by rw [h, wireL, List.take_append, List.take_of_length_le h1]
      obtain ⟨kk, hkk, hg⟩ := getR_item t ((wireL ts).take (k - (itemL t).length)) ht
      have hla : ¬ l.length < a := by
        intro hlt
        rw [List.drop_of_length_le (by omega)] at hd
        have := congrArg List.length hd
        simp only [List.length_nil, List.length_append] at this
        have := itemL_len t
        omega
      rw [allR, hd, hg]
      simp only [dite_true, if_neg hkk, if_neg hla]
      exact ih l _ (k - (itemL t).length) _ (fun u hu => hs u (List.mem_cons_of_mem _ hu)) (by rw [wireL, List.length_append] at hk; omega) (by rw [← List.drop_drop, hd, List.drop_left' rfl])
/-- Lines one behind the other, the flush last. -/
def itemsL (ts : List (List UInt8)) : List UInt8 := ts.flatMap itemL
theorem wireL_items (ts : List (List UInt8)) : wireL ts = itemsL ts ++ hx4 0 := by
  induction ts with
  | nil => rfl
  | cons t ts ih => rw [wireL, ih]; simp [itemsL]
theorem itemsL_snoc (ts : List (List UInt8)) (t : List UInt8) : itemsL (ts ++ [t]) = itemsL ts ++ itemL t := by simp [itemsL]
theorem putL_item (t : List UInt8) (h : (putL t).2 = true) : (putL t).1 = itemL t := by
  unfold putL at h ⊢
  unfold itemL
  split at h
  · rename_i h1
    rw [if_pos h1, if_pos h1.1]
  · cases h
theorem putL_none (t : List UInt8) (h2 : t.length ≤ 1000) (h : (putL t).2 = false) : t = [] := by
  unfold putL at h
  split at h
  · cases h
  · exact List.eq_nil_of_length_eq_zero (by omega)
end Go.Proofs.YtpfoohfgochaiaaGreatDoor
