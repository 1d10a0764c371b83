/- line.Get as the document's answer has it, in plain terms. -/
import Derived.Test.YtpfoohfgochaiaaGreatDoorLg
namespace Go.Proofs.YtpfoohfgochaiaaGreatDoor
theorem hexd_hv (c : UInt8) (h : ¬ hv c < 0) : hexd (hv c).toNat = c ∧ (hv c).toNat < 16 := by
  have : ∀ n : Fin 256, ¬ hv (UInt8.ofNat n.val) < 0 → hexd (hv (UInt8.ofNat n.val)).toNat = UInt8.ofNat n.val ∧ (hv (UInt8.ofNat n.val)).toNat < 16 := by decide +kernel
  have := this ⟨c.toNat, c.toNat_lt⟩
  simp only [UInt8.ofNat_toNat] at this
  exact this h
theorem hstep_some {m n : Nat} {c : UInt8} (h : hstep (some m) c = some n) : ¬ hv c < 0 ∧ n = m * 16 + (hv c).toNat := by
  unfold hstep at h
  rw [Option.bind_some] at h
  split at h
  · cases h
  · rename_i h1; exact ⟨h1, (Option.some.inj h).symm⟩
theorem hstep_none (c : UInt8) : hstep none c = none := rfl
/-- Four digits are those of their number. -/
theorem hnum_four {a b c d : UInt8} {n : Nat} (h : hnum [a, b, c, d] = some n) : hx4 n = [a, b, c, d] := by
  unfold hnum at h
  simp only [List.foldl_cons, List.foldl_nil] at h
  cases h1 : hstep (some 0) a with
  | none => rw [h1] at h; simp [hstep_none] at h
  | some x =>
    rw [h1] at h
    cases h2 : hstep (some x) b with
    | none => rw [h2] at h; simp [hstep_none] at h
    | some y =>
      rw [h2] at h
      cases h3 : hstep (some y) c with
      | none => rw [h3] at h; simp [hstep_none] at h
      | some z =>
        rw [h3] at h
        obtain ⟨a1, a2⟩ := hstep_some h1
        obtain ⟨b1, b2⟩ := hstep_some h2
        obtain ⟨c1, c2⟩ := hstep_some h3
        obtain ⟨d1, d2⟩ := hstep_some h
        obtain ⟨a3, a4⟩ := hexd_hv a a1
        obtain ⟨b3, b4⟩ := hexd_hv b b1
        obtain ⟨c3, c4⟩ := hexd_hv c c1
        obtain ⟨d3, d4⟩ := hexd_hv d d1
        unfold hx4
        rw [show n / 4096 % 16 = (hv a).toNat by omega, show n / 256 % 16 = (hv b).toNat by omega, show n / 16 % 16 = (hv c).toNat by omega, show n % 16 = (hv d).toNat by omega, a3, b3, c3, d3]
theorem lbegins_iff (l : List UInt8) : lbegins l = true ↔ ∃ n, n < 1005 ∧ lmay n = true ∧ l <+: hx4 n := by
  unfold lbegins
  rw [List.any_eq_true]
  constructor
  · rintro ⟨n, h1, h2⟩
    rw [Bool.and_eq_true] at h2
    exact ⟨n, List.mem_range.1 h1, h2.1, List.isPrefixOf_iff_prefix.1 h2.2⟩
  · rintro ⟨n, h1, h2, h3⟩
    exact ⟨n, List.mem_range.2 h1, by rw [h2]; exact List.isPrefixOf_iff_prefix.2 h3⟩
theorem prefix_take {l m : List UInt8} (h : l <+: m) : l = m.take l.length := by
  obtain ⟨t, rfl⟩ := h
  rw [List.take_left' rfl]
theorem lbegins_num {l : List UInt8} (h : lbegins l = true) : ∃ m, hnum l = some m := by
  obtain ⟨n, _, _, hp⟩ := (lbegins_iff l).1 h
  rw [prefix_take hp]
  exact hnum_part n _
theorem list4 {l : List UInt8} (h : 4 ≤ l.length) : ∃ a b c d, l.take 4 = [a, b, c, d] := by
  rcases l with _ | ⟨a, _ | ⟨b, _ | ⟨c, _ | ⟨d, l⟩⟩⟩⟩
  · simp at h
  · simp at h
  · simp at h
  · simp at h
  · exact ⟨a, b, c, d, by simp⟩
theorem lmay_lt {n : Nat} (h : lmay n = true) : n < 1005 := by
  simp [lmay] at h
  omega
/-- Four digits begin something just when their number may be. -/
theorem lbegins_four {l : List UInt8} (h : 4 ≤ l.length) : lbegins (l.take 4) = true ↔ ∃ n, hnum (l.take 4) = some n ∧ lmay n = true := by
  obtain ⟨a, b, c, d, e⟩ := list4 h
  rw [e]
  constructor
  · intro hb
    obtain ⟨n, hn, hm, hp⟩ := (lbegins_iff _).1 hb
    have : [a, b, c, d] = hx4 n := hp.eq_of_length rfl
    exact ⟨n, by rw [this]; exact hnum_hx4 n (by omega), hm⟩
  · rintro ⟨n, hn, hm⟩
    exact (lbegins_iff _).2 ⟨n, lmay_lt hm, hm, by rw [hnum_four hn]; exact List.prefix_refl _⟩
/-- Get, as the document's answer has it. -/
def getQ (l : List UInt8) : Nat × List UInt8 × Nat × Nat :=
  if lbegins (l.take 4) = false then (0, [], 0, 1) else if l.length < 4 then (0, [], 0, 2) else if (hnum (l.take 4)).getD 0 = 0 then (2, [], 4, 0) else if (hnum (l.take 4)).getD 0 = 1 then (3, [], 4, 0)
  else if l.length < (hnum (l.take 4)).getD 0 then (0, [], 0, 2) else (1, (l.take ((hnum (l.take 4)).getD 0)).drop 4, (hnum (l.take 4)).getD 0, 0)
theorem getQ_eq (l : List UInt8) : getQ l = getR l := by
  unfold getQ getR numR
  by_cases h4 : 4 ≤ l.length
  · cases hb : lbegins (l.take 4)
    · rw [if_pos rfl]
      cases hn : hnum (l.take 4) with
      | none => rfl
      | some n =>
        have hm : lmay n = false := by
          cases hm : lmay n
          · rfl
          · rw [(lbegins_four h4).2 ⟨n, hn, hm⟩] at hb; cases hb
        have e1 : (decide (l.length < 4) && lbegins l) = false := by rw [Bool.and_eq_false_iff]; left; simp; omega
        simp only [hm, Bool.and_false, e1, Bool.false_eq_true, if_false]
        rfl
    · obtain ⟨n, hn, hm⟩ := (lbegins_four h4).1 hb
      rw [hn]
      simp only [hm, h4, decide_true, Bool.and_true, if_true, Option.getD_some, ne_eq, not_true, if_false, Bool.true_eq_false]
      rw [if_neg (by omega)]
  · have e : l.take 4 = l := List.take_of_length_le (by omega)
    rw [e]
    cases hb : lbegins l
    · rw [if_pos rfl]
      cases hn : hnum l with
      | none => rfl
      | some n =>
        have e1 : (decide (4 ≤ l.length) && lmay n) = false := by rw [Bool.and_eq_false_iff]; left; simp; omega
        simp only [e1, Bool.and_false, Bool.false_eq_true, if_false]
        rfl
    · obtain ⟨m, hm⟩ := lbegins_num hb
      rw [hm]
      simp only [Bool.and_true, Bool.true_eq_false, if_false]
      rw [if_pos (by omega)]
      have e1 : (decide (4 ≤ l.length) && lmay m) = false := by rw [Bool.and_eq_false_iff]; left; simp; omega
      have e2 : decide (l.length < 4) = true := by simp; omega
      simp only [e1, e2, Bool.false_eq_true, if_false, if_true]
      rfl
end Go.Proofs.YtpfoohfgochaiaaGreatDoor
