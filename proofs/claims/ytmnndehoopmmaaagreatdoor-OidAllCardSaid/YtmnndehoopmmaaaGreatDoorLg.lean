/- line, in plain terms: what was put is got; lines up to a flush; what is cut off. line.Get as the document's answer has it, in plain terms. Names as digits, and back, in plain terms. -/
import Derived.Test.YtmnndehoopmmaaaGreatDoorLe
namespace Go.Proofs.YtmnndehoopmmaaaGreatDoor
theorem hv_hexd (n : Nat) (h : n < 16) : hv (hexd n) = n := by
  have : ∀ m : Fin 16, hv (hexd m.val) = (m.val : Int) := by decide +kernel
  exact this ⟨n, h⟩
theorem hstep_hexd (m n : Nat) (h : n < 16) : hstep (some m) (hexd n) = some (m * 16 + n) := by
  unfold hstep
  rw [Option.bind_some, hv_hexd n h, if_neg (by omega)]
  rfl
theorem hnum_hx4 (n : Nat) (h : n < 65536) : hnum (hx4 n) = some n := by
  unfold hnum hx4
  simp only [List.foldl_cons, List.foldl_nil]
  rw [hstep_hexd _ _ (by omega), hstep_hexd _ _ (by omega), hstep_hexd _ _ (by omega), hstep_hexd _ _ (by omega)]
  congr 1
  omega
/-- A part of the digits is a number still. -/
theorem hnum_part (n k : Nat) : ∃ m, hnum ((hx4 n).take k) = some m := by
  have h0 : hnum (hx4 n) = hnum ((hx4 n).take k ++ (hx4 n).drop k) := by rw [List.take_append_drop]
  cases h : hnum ((hx4 n).take k) with
  | some m => exact ⟨m, rfl⟩
  | none =>
    rw [hnum_none _ _ h] at h0
    unfold hnum hx4 at h0
    simp only [List.foldl_cons, List.foldl_nil] at h0
    rw [hstep_hexd _ _ (by omega), hstep_hexd _ _ (by omega), hstep_hexd _ _ (by omega), hstep_hexd _ _ (by omega)] at h0
    cases h0
theorem hx4_len (n : Nat) : (hx4 n).length = 4 := rfl
/-- The number ahead of a wire that begins with four good digits. -/
theorem numR_head (n : Nat) (z : List UInt8) (hm : lmay n = true) (hn : n ≤ 1004) : numR (hx4 n ++ z) = (n, 0) := by
  unfold numR
  rw [List.take_left' (hx4_len n), hnum_hx4 n (by omega)]
  simp only [List.length_append, hx4_len, hm, Bool.and_true]
  rw [if_pos (by simp)]
/-- What is cut off within the digits. -/
theorem numR_part (n k : Nat) (hm : lmay n = true) (hn : n ≤ 1004) (hk : k < 4) : numR ((hx4 n).take k) = (0, 2) := by
  have hl : ((hx4 n).take k).length = k := by rw [List.length_take, hx4_len]; omega
  unfold numR
  rw [List.take_of_length_le (by omega)]
  obtain ⟨m, h⟩ := hnum_part n k
  rw [h]
  have hb : lbegins ((hx4 n).take k) = true := someB (n := n) (by omega) (by
    rw [hm, Bool.true_and]
    unfold Lib.hasPrefix
    rw [List.isPrefixOf_iff_prefix]
    exact List.take_prefix _ _)
  simp only [hl, hb, Bool.and_true]
  rw [if_neg (by simp; omega), if_pos (by simpa using hk)]
/-- A line as it stands on the wire: its text, or no text for what stands between. -/
def itemL (t : List UInt8) : List UInt8 := if 1 ≤ t.length then hx4 (t.length + 4) ++ t else hx4 1
theorem itemL_len (t : List UInt8) : 4 ≤ (itemL t).length := by
  unfold itemL; split
  · rw [List.length_append, hx4_len]; omega
  · rw [hx4_len]; omega
theorem lmay_of {n : Nat} (h : n = 0 ∨ n = 1 ∨ (4 < n ∧ n ≤ 1004)) : lmay n = true := by
  unfold lmay
  rcases h with rfl | rfl | ⟨h1, h2⟩
  · rfl
  · rfl
  · simp [h1, h2]
theorem getR_put (t z : List UInt8) (h1 : 1 ≤ t.length) (h2 : t.length ≤ 1000) : getR (hx4 (t.length + 4) ++ t ++ z) = (1, t, t.length + 4, 0) := by
  rw [List.append_assoc]
  unfold getR
  rw [numR_head _ _ (lmay_of (.inr (.inr ⟨by omega, by omega⟩))) (by omega)]
  simp only [ne_eq, not_true, if_false]
  rw [if_neg (by omega), if_neg (by omega), if_neg (by simp only [List.length_append, hx4_len]; omega)]
  have e : (hx4 (t.length + 4) ++ (t ++ z)).take (t.length + 4) = hx4 (t.length + 4) ++ t := by
    rw [← List.append_assoc]; exact List.take_left' (by simp only [List.length_append, hx4_len]; omega)
  rw [e, List.drop_left' (hx4_len _)]
theorem getR_flush (z : List UInt8) : getR (hx4 0 ++ z) = (2, [], 4, 0) := by
  unfold getR
  rw [numR_head 0 z rfl (by omega)]
  rfl
theorem getR_delim (z : List UInt8) : getR (hx4 1 ++ z) = (3, [], 4, 0) := by
  unfold getR
  rw [numR_head 1 z rfl (by omega)]
  rfl
theorem getR_item (t z : List UInt8) (h2 : t.length ≤ 1000) : ∃ k, k ≠ 2 ∧ getR (itemL t ++ z) = (k, t, (itemL t).length, 0) := by
  unfold itemL
  by_cases h : 1 ≤ t.length
  · rw [if_pos h, getR_put t z h h2]
    exact ⟨1, by omega, by rw [List.length_append, hx4_len, Nat.add_comm]⟩
  · rw [if_neg h, getR_delim]
    have : t = [] := List.eq_nil_of_length_eq_zero (by omega)
    subst this
    exact ⟨3, by omega, rfl⟩
/-- A wire that is cut off within its first line is not whole. -/
theorem getR_cut (n : Nat) (t : List UInt8) (k : Nat) (hn : (n = 0 ∨ n = 1) ∧ t = [] ∨ n = t.length + 4 ∧ 1 ≤ t.length ∧ t.length ≤ 1000) (hk : k < 4 + t.length) :
    getR ((hx4 n ++ t).take k) = (0, [], 0, 2) := by
  have hm : lmay n = true ∧ n ≤ 1004 := by
    rcases hn with ⟨h | h, _⟩ | ⟨h1, h2, h3⟩
    · subst h; exact ⟨rfl, by omega⟩
    · subst h; exact ⟨rfl, by omega⟩
    · exact ⟨lmay_of (.inr (.inr ⟨by omega, by omega⟩)), by omega⟩
  rcases Nat.lt_or_ge k 4 with h4 | h4
  · have e : (hx4 n ++ t).take k = (hx4 n).take k := List.take_append_of_le_length (by rw [hx4_len]; omega)
    rw [e]
    unfold getR
    rw [numR_part n k hm.1 hm.2 h4]
    rfl
  · have e : (hx4 n ++ t).take k = hx4 n ++ t.take (k - 4) := by rw [List.take_append, List.take_of_length_le (by rw [hx4_len]; omega), hx4_len]
    rw [e]
    unfold getR
    rw [numR_head n _ hm.1 hm.2]
    rcases hn with ⟨_, rfl⟩ | ⟨h1, h2, h3⟩
    · simp at hk; omega
    · simp only [ne_eq, not_true, if_false]
      rw [if_neg (by omega), if_neg (by omega), if_pos (by simp only [List.length_append, hx4_len, List.length_take]; omega)]
theorem getR_cut_item (t : List UInt8) (k : Nat) (h2 : t.length ≤ 1000) (hk : k < (itemL t).length) : getR ((itemL t).take k) = (0, [], 0, 2) := by
  unfold itemL at hk ⊢
  by_cases h : 1 ≤ t.length
  · rw [if_pos h] at hk ⊢
    exact getR_cut _ t k (.inr ⟨rfl, h, h2⟩) (by rw [List.length_append, hx4_len] at hk; exact hk)
  · rw [if_neg h] at hk ⊢
    have := getR_cut 1 [] k (.inl ⟨.inr rfl, rfl⟩) (by rw [hx4_len] at hk; simpa using hk)
    rwa [List.append_nil] at this
/-- Lines, and a flush. -/
def wireL : List (List UInt8) → List UInt8
  | [] => hx4 0
  | t :: ts => itemL t ++ wireL ts
theorem allR_wire (z : List UInt8) (ts : List (List UInt8)) : ∀ (l : List UInt8) (a : Nat) (acc : List (List UInt8)), (∀ t ∈ ts, t.length ≤ 1000) → l.drop a = wireL ts ++ z →
    allR l a acc = (acc ++ ts, a + (wireL ts).length, 0) := by
  induction ts with
  | nil =>
    intro l a acc _ h
    rw [allR, h]
    unfold wireL
    rw [getR_flush]
    simp [hx4_len]
  | cons t ts ih =>
    intro l a acc hs h
    obtain ⟨k, hk, hg⟩ := getR_item t (wireL ts ++ z) (hs t (List.mem_cons_self ..))
    have hd : l.drop a = itemL t ++ (wireL ts ++ z) := by rw [h, wireL, List.append_assoc]
    have hla : ¬ l.length < a := by
      intro hlt
      rw [List.drop_of_length_le (by omega)] at hd
      have := congrArg List.length hd
      simp only [List.length_nil, List.length_append] at this
      have := itemL_len t
      omega
    rw [allR, hd, hg]
    simp only [dite_true, if_neg hk, if_neg hla]
    rw [ih l _ _ (fun u hu => hs u (List.mem_cons_of_mem _ hu)) (by rw [← List.drop_drop, hd, List.drop_left' rfl])]
    rw [wireL, List.length_append, List.append_assoc, Nat.add_assoc]
    rfl
theorem allR_cut (ts : List (List UInt8)) : ∀ (l : List UInt8) (a k : Nat) (acc : List (List UInt8)), (∀ t ∈ ts, t.length ≤ 1000) → k < (wireL ts).length → l.drop a = (wireL ts).take k →
    allR l a acc = ([], 0, 2) := by
  induction ts with
  | nil =>
    intro l a k acc _ hk h
    have := getR_cut 0 [] k (.inl ⟨.inl rfl, rfl⟩) (by rw [wireL, hx4_len] at hk; simpa using hk)
    rw [List.append_nil] at this
    rw [allR, h, wireL, this]
    rfl
  | cons t ts ih =>
    intro l a k acc hs hk h
    have ht := hs t (List.mem_cons_self ..)
    rcases Nat.lt_or_ge k (itemL t).length with h1 | h1
    · rw [wireL, List.take_append_of_le_length (by omega)] at h
      rw [allR, h, getR_cut_item t k ht h1]
      rfl
    · have hd : l.drop a = itemL t ++ (wireL ts).take (k - (itemL t).length) := by rw [h, wireL, List.take_append, List.take_of_length_le h1]
      obtain ⟨kk, hkk, hg⟩ := getR_item t ((wireL ts).take (k - (itemL t).length)) ht
      have hla : ¬ l.length < a := by
        intro hlt
        rw [List.drop_of_length_le (by omega)] at hd
        have := congrArg List.length hd
        simp only [List.length_nil, List.length_append] at this
        have := itemL_len t
        omega
      rw [allR, hd, hg]
      simp only [dite_true, if_neg hkk, if_neg hla]
      exact ih l _ (k - (itemL t).length) _ (fun u hu => hs u (List.mem_cons_of_mem _ hu)) (by rw [wireL, List.length_append] at hk; omega) (by rw [← List.drop_drop, hd, List.drop_left' rfl])
/-- Lines one behind the other, the flush last. -/
def itemsL (ts : List (List UInt8)) : List UInt8 := ts.flatMap itemL
theorem wireL_items (ts : List (List UInt8)) : wireL ts = itemsL ts ++ hx4 0 := by
  induction ts with
  | nil => rfl
  | cons t ts ih => rw [wireL, ih]; simp [itemsL]
theorem itemsL_snoc (ts : List (List UInt8)) (t : List UInt8) : itemsL (ts ++ [t]) = itemsL ts ++ itemL t := by simp [itemsL]
theorem putL_item (t : List UInt8) (h : (putL t).2 = true) : (putL t).1 = itemL t := by
  unfold putL at h ⊢
  unfold itemL
  split at h
  · rename_i h1
    rw [if_pos h1, if_pos h1.1]
  · cases h
theorem putL_none (t : List UInt8) (h2 : t.length ≤ 1000) (h : (putL t).2 = false) : t = [] := by
  unfold putL at h
  split at h
  · cases h
  · exact List.eq_nil_of_length_eq_zero (by omega)
end Go.Proofs.YtmnndehoopmmaaaGreatDoor
namespace Go.Proofs.YtmnndehoopmmaaaGreatDoor
theorem hexd_hv (c : UInt8) (h : ¬ hv c < 0) : hexd (hv c).toNat = c ∧ (hv c).toNat < 16 := by
  have : ∀ n : Fin 256, ¬ hv (UInt8.ofNat n.val) < 0 → hexd (hv (UInt8.ofNat n.val)).toNat = UInt8.ofNat n.val ∧ (hv (UInt8.ofNat n.val)).toNat < 16 := by decide +kernel
  have := this ⟨c.toNat, c.toNat_lt⟩
  simp only [UInt8.ofNat_toNat] at this
  exact this h
theorem hstep_some {m n : Nat} {c : UInt8} (h : hstep (some m) c = some n) : ¬ hv c < 0 ∧ n = m * 16 + (hv c).toNat := by
  unfold hstep at h
  rw [Option.bind_some] at h
  split at h
  · cases h
  · rename_i h1; exact ⟨h1, (Option.some.inj h).symm⟩
theorem hstep_none (c : UInt8) : hstep none c = none := rfl
/-- Four digits are those of their number. -/
theorem hnum_four {a b c d : UInt8} {n : Nat} (h : hnum [a, b, c, d] = some n) : hx4 n = [a, b, c, d] := by
  unfold hnum at h
  simp only [List.foldl_cons, List.foldl_nil] at h
  cases h1 : hstep (some 0) a with
  | none => rw [h1] at h; simp [hstep_none] at h
  | some x =>
    rw [h1] at h
    cases h2 : hstep (some x) b with
    | none => rw [h2] at h; simp [hstep_none] at h
    | some y =>
      rw [h2] at h
      cases h3 : hstep (some y) c with
      | none => rw [h3] at h; simp [hstep_none] at h
      | some z =>
        rw [h3] at h
        obtain ⟨a1, a2⟩ := hstep_some h1
        obtain ⟨b1, b2⟩ := hstep_some h2
        obtain ⟨c1, c2⟩ := hstep_some h3
        obtain ⟨d1, d2⟩ := hstep_some h
        obtain ⟨a3, a4⟩ := hexd_hv a a1
        obtain ⟨b3, b4⟩ := hexd_hv b b1
        obtain ⟨c3, c4⟩ := hexd_hv c c1
        obtain ⟨d3, d4⟩ := hexd_hv d d1
        unfold hx4
        rw [show n / 4096 % 16 = (hv a).toNat by omega, show n / 256 % 16 = (hv b).toNat by omega, show n / 16 % 16 = (hv c).toNat by omega, show n % 16 = (hv d).toNat by omega, a3, b3, c3, d3]
theorem lbegins_iff (l : List UInt8) : lbegins l = true ↔ ∃ n, n < 1005 ∧ lmay n = true ∧ l <+: hx4 n := by
  unfold lbegins
  rw [List.any_eq_true]
  constructor
  · rintro ⟨n, h1, h2⟩
    rw [Bool.and_eq_true] at h2
    exact ⟨n, List.mem_range.1 h1, h2.1, List.isPrefixOf_iff_prefix.1 h2.2⟩
  · rintro ⟨n, h1, h2, h3⟩
    exact ⟨n, List.mem_range.2 h1, by rw [h2]; exact List.isPrefixOf_iff_prefix.2 h3⟩
theorem prefix_take {l m : List UInt8} (h : l <+: m) : l = m.take l.length := by
  obtain ⟨t, rfl⟩ := h
  rw [List.take_left' rfl]
theorem lbegins_num {l : List UInt8} (h : lbegins l = true) : ∃ m, hnum l = some m := by
  obtain ⟨n, _, _, hp⟩ := (lbegins_iff l).1 h
  rw [prefix_take hp]
  exact hnum_part n _
theorem list4 {l : List UInt8} (h : 4 ≤ l.length) : ∃ a b c d, l.take 4 = [a, b, c, d] := by
  rcases l with _ | ⟨a, _ | ⟨b, _ | ⟨c, _ | ⟨d, l⟩⟩⟩⟩
  · simp at h
  · simp at h
  · simp at h
  · simp at h
  · exact ⟨a, b, c, d, by simp⟩
theorem lmay_lt {n : Nat} (h : lmay n = true) : n < 1005 := by
  simp [lmay] at h
  omega
/-- Four digits begin something just when their number may be. -/
theorem lbegins_four {l : List UInt8} (h : 4 ≤ l.length) : lbegins (l.take 4) = true ↔ ∃ n, hnum (l.take 4) = some n ∧ lmay n = true := by
  obtain ⟨a, b, c, d, e⟩ := list4 h
  rw [e]
  constructor
  · intro hb
    obtain ⟨n, hn, hm, hp⟩ := (lbegins_iff _).1 hb
    have : [a, b, c, d] = hx4 n := hp.eq_of_length rfl
    exact ⟨n, by rw [this]; exact hnum_hx4 n (by omega), hm⟩
  · rintro ⟨n, hn, hm⟩
    exact (lbegins_iff _).2 ⟨n, lmay_lt hm, hm, by rw [hnum_four hn]; exact List.prefix_refl _⟩
/-- Get, as the document's answer has it. -/
def getQ (l : List UInt8) : Nat × List UInt8 × Nat × Nat :=
  if lbegins (l.take 4) = false then (0, [], 0, 1) else if l.length < 4 then (0, [], 0, 2) else if (hnum (l.take 4)).getD 0 = 0 then (2, [], 4, 0) else if (hnum (l.take 4)).getD 0 = 1 then (3, [], 4, 0)
  else if l.length < (hnum (l.take 4)).getD 0 then (0, [], 0, 2) else (1, (l.take ((hnum (l.take 4)).getD 0)).drop 4, (hnum (l.take 4)).getD 0, 0)
theorem getQ_eq (l : List UInt8) : getQ l = getR l := by
  unfold getQ getR numR
  by_cases h4 : 4 ≤ l.length
  · cases hb : lbegins (l.take 4)
    · rw [if_pos rfl]
      cases hn : hnum (l.take 4) with
      | none => rfl
      | some n =>
        have hm : lmay n = false := by
          cases hm : lmay n
          · rfl
          · rw [(lbegins_four h4).2 ⟨n, hn, hm⟩] at hb; cases hb
        have e1 : (decide (l.length < 4) && lbegins l) = false := by rw [Bool.and_eq_false_iff]; left; simp; omega
        simp only [hm, Bool.and_false, e1, Bool.false_eq_true, if_false]
        rfl
    · obtain ⟨n, hn, hm⟩ := (lbegins_four h4).1 hb
      rw [hn]
      simp only [hm, h4, decide_true, Bool.and_true, if_true, Option.getD_some, ne_eq, not_true, if_false, Bool.true_eq_false]
      rw [if_neg (by omega)]
  · have e : l.take 4 = l := List.take_of_length_le (by omega)
    rw [e]
    cases hb : lbegins l
    · rw [if_pos rfl]
      cases hn : hnum l with
      | none => rfl
      | some n =>
        have e1 : (decide (4 ≤ l.length) && lmay n) = false := by rw [Bool.and_eq_false_iff]; left; simp; omega
        simp only [e1, Bool.and_false, Bool.false_eq_true, if_false]
        rfl
    · obtain ⟨m, hm⟩ := lbegins_num hb
      rw [hm]
      simp only [Bool.and_true, Bool.true_eq_false, if_false]
      rw [if_pos (by omega)]
      have e1 : (decide (4 ≤ l.length) && lmay m) = false := by rw [Bool.and_eq_false_iff]; left; simp; omega
      have e2 : decide (l.length < 4) = true := by simp; omega
      simp only [e1, e2, Bool.false_eq_true, if_false, if_true]
      rfl
end Go.Proofs.YtmnndehoopmmaaaGreatDoor
namespace Go.Proofs.YtmnndehoopmmaaaGreatDoor
/-- Are these digits, all of them? -/
def isHexL (l : List UInt8) : Bool := l.all fun c => decide (0 ≤ hv c)
/-- What pairs of digits say. -/
def unhex : List UInt8 → List UInt8
  | a :: b :: r => UInt8.ofNat ((hv a).toNat * 16 + (hv b).toNat) :: unhex r
  | _ => []
theorem unhex_hexL (l : List UInt8) : unhex (hexL l) = l ∧ isHexL (hexL l) = true := by
  induction l with
  | nil => exact ⟨rfl, rfl⟩
  | cons c l ih =>
    have e : hexL (c :: l) = hexd (c.toNat / 16) :: hexd (c.toNat % 16) :: hexL l := rfl
    have h1 := hv_hexd (c.toNat / 16) (by have := c.toNat_lt; omega)
    have h2 := hv_hexd (c.toNat % 16) (by omega)
    rw [e]
    constructor
    · rw [unhex, h1, h2, ih.1]
      congr 1
      rw [Int.toNat_natCast, Int.toNat_natCast, show c.toNat / 16 * 16 + c.toNat % 16 = c.toNat by omega]
      exact UInt8.ofNat_toNat
    · unfold isHexL at ih ⊢
      rw [List.all_cons, List.all_cons, h1, h2, ih.2]
      simp
      omega
theorem hexL_unhex : ∀ (n : Nat) (l : List UInt8), l.length = 2 * n → isHexL l = true → hexL (unhex l) = l := by
  intro n
  induction n with
  | zero =>
    intro l h _
    have := List.eq_nil_of_length_eq_zero (by omega : l.length = 0)
    subst this
    rfl
  | succ n ih =>
    intro l h hx
    rcases l with _ | ⟨a, _ | ⟨b, r⟩⟩
    · simp at h
    · simp at h; omega
    · unfold isHexL at hx
      rw [List.all_cons, List.all_cons, Bool.and_eq_true, Bool.and_eq_true] at hx
      obtain ⟨ha, hb, hr⟩ := hx
      simp only [decide_eq_true_eq] at ha hb
      obtain ⟨a1, a2⟩ := hexd_hv a (by omega)
      obtain ⟨b1, b2⟩ := hexd_hv b (by omega)
      rw [unhex]
      have e : ∀ c m, hexL (c :: m) = hexd (c.toNat / 16) :: hexd (c.toNat % 16) :: hexL m := fun _ _ => rfl
      rw [e, ih r (by simp at h; omega) hr]
      have hn : (UInt8.ofNat ((hv a).toNat * 16 + (hv b).toNat)).toNat = (hv a).toNat * 16 + (hv b).toNat := by
        rw [UInt8.toNat_ofNat']; omega
      rw [hn, show ((hv a).toNat * 16 + (hv b).toNat) / 16 = (hv a).toNat by omega, show ((hv a).toNat * 16 + (hv b).toNat) % 16 = (hv b).toNat by omega, a1, b1]
theorem unhex_len : ∀ (n : Nat) (l : List UInt8), l.length = 2 * n → (unhex l).length = n := by
  intro n
  induction n with
  | zero =>
    intro l h
    have := List.eq_nil_of_length_eq_zero (by omega : l.length = 0)
    subst this
    rfl
  | succ n ih =>
    intro l h
    rcases l with _ | ⟨a, _ | ⟨b, r⟩⟩
    · simp at h
    · simp at h; omega
    · rw [unhex, List.length_cons, ih r (by simp at h; omega)]
theorem unhex_append : ∀ (n : Nat) (l : List UInt8) (a b : UInt8), l.length = 2 * n → unhex (l ++ [a, b]) = unhex l ++ [UInt8.ofNat ((hv a).toNat * 16 + (hv b).toNat)] := by
  intro n
  induction n with
  | zero =>
    intro l a b h
    have := List.eq_nil_of_length_eq_zero (by omega : l.length = 0)
    subst this
    rfl
  | succ n ih =>
    intro l a b h
    rcases l with _ | ⟨c, _ | ⟨d, r⟩⟩
    · simp at h
    · simp at h; omega
    · rw [List.cons_append, List.cons_append, unhex, unhex, ih r a b (by simp at h; omega), List.cons_append]
/-- A name of digits; nought, false. -/
def idR (l : List UInt8) : List UInt8 × Bool := if l.length = 64 ∧ isHexL l = true then (unhex l, true) else (List.replicate 32 0, false)
theorem idR_len (l : List UInt8) : (idR l).1.length = 32 := by
  unfold idR
  split
  · rename_i h; exact unhex_len 32 l (by omega)
  · exact List.length_replicate
theorem idR_hexL (a : List UInt8) (hl : (hexL a).length = 64) : idR (hexL a) = (a, true) := by
  unfold idR
  obtain ⟨h1, h2⟩ := unhex_hexL a
  rw [if_pos ⟨hl, h2⟩, h1]
theorem idR_inj {a p : List UInt8} (hok : (idR p).2 = true) : (idR p).1 = a ↔ p = hexL a := by
  unfold idR at hok ⊢
  split at hok
  · rename_i h
    rw [if_pos h]
    constructor
    · intro e
      rw [← e, hexL_unhex 32 p (by omega) h.2]
    · intro e
      rw [e]; exact (unhex_hexL a).1
  · cases hok
/-- The cells of a name while it is read: so many digits are in. -/
def idSt (l : List UInt8) : Nat → List UInt8
  | 0 => List.replicate 32 0
  | k + 1 => (idSt l k).set (k / 2) (UInt8.ofNat (((idSt l k).getD (k / 2) 0).toNat * 16 + (hv (l.getD k 0)).toNat))
theorem idSt_len (l : List UInt8) (k : Nat) : (idSt l k).length = 32 := by
  induction k with
  | zero => exact List.length_replicate
  | succ k ih => rw [idSt, List.length_set, ih]
theorem hv_nn {l : List UInt8} {k : Nat} (hx : isHexL l = true) (h : k < l.length) : 0 ≤ hv (l.getD k 0) ∧ hv (l.getD k 0) < 16 := by
  have e : l.getD k 0 = l[k] := by simp [List.getD_eq_getElem?_getD, h]
  unfold isHexL at hx
  have := List.all_eq_true.1 hx _ (List.getElem_mem h)
  simp only [decide_eq_true_eq] at this
  obtain ⟨_, h2⟩ := hexd_hv l[k] (by omega)
  rw [e]
  omega
theorem idSt_even (l : List UInt8) (hl : l.length = 64) (hx : isHexL l = true) (m : Nat) (hm : m ≤ 32) : idSt l (2 * m) = unhex (l.take (2 * m)) ++ List.replicate (32 - m) 0 := by
  induction m with
  | zero => rfl
  | succ m ih =>
    have ih := ih (by omega)
    have ul : (unhex (l.take (2 * m))).length = m := unhex_len m _ (by rw [List.length_take]; omega)
    have h0 := hv_nn (k := 2 * m) hx (by omega)
    have h1 := hv_nn (k := 2 * m + 1) hx (by omega)
    have er : List.replicate (32 - m) (0 : UInt8) = 0 :: List.replicate (32 - (m + 1)) 0 := by
      rw [show 32 - m = (32 - (m + 1)) + 1 by omega, List.replicate_succ]
    have e1 : idSt l (2 * m + 1) = unhex (l.take (2 * m)) ++ (UInt8.ofNat (hv (l.getD (2 * m) 0)).toNat :: List.replicate (32 - (m + 1)) 0) := by
      rw [idSt, ih, show 2 * m / 2 = m by omega, er]
      rw [List.set_append_right _ _ (by omega), ul, Nat.sub_self, List.set_cons_zero]
      congr 2
      have : (unhex (l.take (2 * m)) ++ 0 :: List.replicate (32 - (m + 1)) (0 : UInt8)).getD m 0 = 0 := by
        rw [List.getD_eq_getElem?_getD, List.getElem?_append_right (by omega), ul, Nat.sub_self]; rfl
      rw [this]; simp
    have et : l.take (2 * (m + 1)) = l.take (2 * m) ++ [l.getD (2 * m) 0, l.getD (2 * m + 1) 0] := by
      rw [show 2 * (m + 1) = 2 * m + 1 + 1 by omega, List.take_succ_eq_append_getElem (by omega), List.take_succ_eq_append_getElem (by omega), List.append_assoc]
      simp [List.getD_eq_getElem?_getD, show 2 * m < l.length by omega, show 2 * m + 1 < l.length by omega]
    rw [show 2 * (m + 1) = (2 * m + 1) + 1 by omega, idSt, e1, show (2 * m + 1) / 2 = m by omega]
    rw [List.set_append_right _ _ (by omega), ul, Nat.sub_self, List.set_cons_zero]
    have : (unhex (l.take (2 * m)) ++ (UInt8.ofNat (hv (l.getD (2 * m) 0)).toNat :: List.replicate (32 - (m + 1)) (0 : UInt8))).getD m 0 = UInt8.ofNat (hv (l.getD (2 * m) 0)).toNat := by
      rw [List.getD_eq_getElem?_getD, List.getElem?_append_right (by omega), ul, Nat.sub_self]; rfl
    rw [this, show 2 * m + 1 + 1 = 2 * (m + 1) by omega, et, unhex_append m _ _ _ (by rw [List.length_take]; omega), List.append_assoc]
    congr 2
    rw [UInt8.toNat_ofNat', Nat.mod_eq_of_lt (by omega)]
theorem idSt_all (l : List UInt8) (hl : l.length = 64) (hx : isHexL l = true) : idSt l 64 = (idR l).1 := by
  have := idSt_even l hl hx 32 (by omega)
  unfold idR
  rw [if_pos ⟨hl, hx⟩]
  rw [show 64 = 2 * 32 by omega, this, List.take_of_length_le (by omega)]
  simp
end Go.Proofs.YtmnndehoopmmaaaGreatDoor
