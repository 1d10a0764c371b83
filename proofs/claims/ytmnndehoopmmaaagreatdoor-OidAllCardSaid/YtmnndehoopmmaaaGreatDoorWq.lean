/- when.Get, in plain words: which texts are read as a time. -/
import Derived.Test.YtmnndehoopmmaaaGreatDoorPu
namespace Go.Proofs.YtmnndehoopmmaaaGreatDoor
open Go.RowKit
theorem pd_hv (c : UInt8) (h : 0 ≤ hv c) : pd c = (hv c).toNat ∧ pd c < 16 ∧ c = hexd (hv c).toNat := by
  have h2 : ∀ n : Fin 256, 0 ≤ hv (UInt8.ofNat n.val) → pd (UInt8.ofNat n.val) = (hv (UInt8.ofNat n.val)).toNat ∧ pd (UInt8.ofNat n.val) < 16 ∧ UInt8.ofNat n.val = hexd (hv (UInt8.ofNat n.val)).toNat := by decide +kernel
  have := h2 ⟨c.toNat, c.toNat_lt⟩
  simp only [UInt8.ofNat_toNat] at this
  exact this h
theorem hv_hexd (d : Nat) (h : d < 16) : hv (hexd d) = (d : Int) := by
  have : ∀ m : Fin 16, hv (hexd m.val) = ((m.val : Nat) : Int) := by decide +kernel
  exact this ⟨d, h⟩
theorem fold_none (l : List UInt8) : l.foldl hstep none = none := by
  induction l with
  | nil => rfl
  | cons c r ih => exact ih
theorem pu_fold (l : List UInt8) : ∀ (acc n : Nat), (acc + 1) * 16 ^ l.length ≤ 18446744073709551616 → l.foldl hstep (some acc) = some n → pu acc l = .ok n := by
  induction l with
  | nil =>
    intro acc n _ h
    simp at h
    rw [pu, h]
  | cons c r ih =>
    intro acc n hb h
    rw [List.foldl_cons] at h
    rw [pu]
    by_cases hc : hv c < 0
    · rw [show hstep (some acc) c = none from by simp [hstep, hc], fold_none] at h
      cases h
    · obtain ⟨h1, h2, _⟩ := pd_hv c (by omega)
      rw [show hstep (some acc) c = some (acc * 16 + (hv c).toNat) from by simp [hstep, hc]] at h
      rw [List.length_cons, Nat.pow_succ] at hb
      have hp : 1 ≤ 16 ^ r.length := Nat.pow_pos (by omega)
      have e1 : (acc + 1) * (16 ^ r.length * 16) = (acc + 1) * 16 * 16 ^ r.length := by rw [Nat.mul_comm (16 ^ r.length) 16, Nat.mul_assoc]
      rw [e1] at hb
      have h3 : (acc + 1) * 16 * 1 ≤ (acc + 1) * 16 * 16 ^ r.length := Nat.mul_le_mul_left _ hp
      rw [if_pos h2, if_neg (by omega), h1]
      refine ih _ _ (Nat.le_trans (Nat.mul_le_mul_right _ ?_) hb) h
      omega
theorem pu_lt (l : List UInt8) : ∀ (acc n : Nat), acc < 18446744073709551616 → pu acc l = .ok n → n < 18446744073709551616 := by
  induction l with
  | nil =>
    intro acc n ha h
    rw [pu] at h
    cases h
    exact ha
  | cons c r ih =>
    intro acc n ha h
    rw [pu] at h
    split at h
    · split at h
      · cases h
      · exact ih _ _ (by omega) h
    · cases h
theorem puB_hnum (l : List UInt8) (h1 : 0 < l.length) (h16 : l.length ≤ 16) (n : Nat) (h : hnum l = some n) : puB l = .ok n := by
  unfold puB
  rw [if_neg (by intro e; rw [e] at h1; exact absurd h1 (by decide))]
  refine pu_fold l 0 n ?_ h
  have : 16 ^ l.length ≤ 16 ^ 16 := Nat.pow_le_pow_right (by omega) h16
  rw [show (16 : Nat) ^ 16 = 18446744073709551616 by decide] at this
  omega
theorem hnum_snoc_some {l : List UInt8} {c : UInt8} {n : Nat} (h : hnum (l ++ [c]) = some n) : hnum l = some (n / 16) ∧ 0 ≤ hv c ∧ (hv c).toNat = n % 16 := by
  rw [hnum_snoc] at h
  cases hl : hnum l with
  | none => rw [hl] at h; cases h
  | some m =>
    rw [hl] at h
    have h16 := hv_lt c
    by_cases hc : hv c < 0
    · rw [show hstep (some m) c = none from by simp [hstep, hc]] at h
      cases h
    · rw [show hstep (some m) c = some (m * 16 + (hv c).toNat) from by simp [hstep, hc]] at h
      injection h with h
      exact ⟨by congr 1; omega, by omega, by omega⟩
theorem hnum_inj (k : Nat) : ∀ (l m : List UInt8) (n : Nat), l.length = k → m.length = k → hnum l = some n → hnum m = some n → l = m := by
  induction k with
  | zero =>
    intro l m n h1 h2 _ _
    rw [List.length_eq_zero_iff.mp h1, List.length_eq_zero_iff.mp h2]
  | succ k ih =>
    intro l m n h1 h2 e1 e2
    rcases List.eq_nil_or_concat l with rfl | ⟨l', c, rfl⟩
    · simp at h1
    rcases List.eq_nil_or_concat m with rfl | ⟨m', d, rfl⟩
    · simp at h2
    simp only [List.concat_eq_append, List.length_append, List.length_cons, List.length_nil] at h1 h2 e1 e2 ⊢
    obtain ⟨a1, a2, a3⟩ := hnum_snoc_some e1
    obtain ⟨b1, b2, b3⟩ := hnum_snoc_some e2
    rw [ih l' m' _ (by omega) (by omega) a1 b1, (pd_hv c a2).2.2, (pd_hv d b2).2.2, a3, b3]
theorem hnum_hexS (n : Nat) : hnum (hexS n) = some n := by
  induction n using Nat.strongRecOn with
  | ind n ih =>
    by_cases h : n < 16
    · rw [hexS_lt h]
      have := hv_hexd n h
      simp only [hnum, List.foldl_cons, List.foldl_nil, hstep, Option.bind_some]
      rw [this, if_neg (by omega)]
      congr 1
      omega
    · rw [hexS_ge (by omega), hnum_snoc, ih (n / 16) (by omega)]
      have := hv_hexd (n % 16) (by omega)
      simp only [hstep, Option.bind_some]
      rw [this, if_neg (by omega)]
      congr 1
      omega
theorem hnum_noughs (k : Nat) (l : List UInt8) : hnum (List.replicate k 48 ++ l) = hnum l := by
  induction k with
  | zero => rfl
  | succ k ih =>
    rw [List.replicate_succ, List.cons_append]
    have h0 : hstep (some 0) 48 = some 0 := by decide
    unfold hnum at ih ⊢
    rw [List.foldl_cons, h0]
    exact ih
theorem wput_len {b : Nat} (hb : b < 18446744073709551616) (h : fmay b = true) : (wput b).length = 16 := by
  unfold wput
  have hl := hexS_len 15 b (by rw [show (16 : Nat) ^ (15 + 1) = 18446744073709551616 by decide]; exact hb)
  rw [h]
  simp only [cond_true, List.length_append, List.length_replicate]
  omega
theorem wput_num {b : Nat} (h : fmay b = true) : hnum (wput b) = some b := by
  unfold wput
  rw [h, cond_true, hnum_noughs, hnum_hexS]
/-- What when.Get tells of a text: the bits; is it a time? -/
def wgetV (l : List UInt8) : Nat × Bool := match puB l with
  | .ok n => bif fmay n && (wput n == l) then (n, true) else (0, false)
  | _ => (0, false)
/-- What the document tells. -/
def rgetV (l : List UInt8) : Nat × Bool := match hnum l with
  | some n => bif decide (l.length = 16) && fmay n then (n, true) else (0, false)
  | none => (0, false)
theorem wgetV_eq (l : List UInt8) : wgetV l = rgetV l := by
  unfold rgetV
  cases hn : hnum l with
  | some n =>
    by_cases h16 : l.length = 16
    · rw [wgetV, puB_hnum l (by omega) (by omega) n hn]
      simp only [h16, decide_true, Bool.true_and]
      cases hm : fmay n
      · rfl
      · have hlt : n < 18446744073709551616 := by
          have := hnum_lt l 16 (by omega) n (by rw [List.take_of_length_le (by omega)]; exact hn)
          rwa [show (16 : Nat) ^ 16 = 18446744073709551616 by decide] at this
        rw [hnum_inj 16 (wput n) l n (wput_len hlt hm) h16 (wput_num hm) hn]
        simp
    · simp only [h16, decide_false, Bool.false_and, cond_false]
      unfold wgetV
      cases hp : puB l with
      | ok m =>
        simp only
        cases hm : fmay m
        · rfl
        · have hlt : m < 18446744073709551616 := by
            unfold puB at hp
            split at hp
            · cases hp
            · exact pu_lt l 0 m (by omega) hp
          have : (wput m == l) = false := by
            rw [beq_eq_false_iff_ne]
            intro e
            exact h16 (by rw [← e]; exact wput_len hlt hm)
          rw [this]
          rfl
      | «syntax» => rfl
      | range => rfl
  | none =>
    unfold wgetV
    cases hp : puB l with
    | ok m =>
      simp only
      cases hm : fmay m
      · rfl
      · have : (wput m == l) = false := by
          rw [beq_eq_false_iff_ne]
          intro e
          rw [← e, wput_num hm] at hn
          cases hn
        rw [this]
        rfl
    | «syntax» => rfl
    | range => rfl
theorem wgetV_put {b : Nat} (hb : b < 18446744073709551616) (h : fmay b = true) : wgetV (wput b) = (b, true) := by
  rw [wgetV_eq, rgetV, wput_num h]
  simp [wput_len hb h, h]
theorem wgetV_nil : wgetV [] = (0, false) := rfl
theorem wput_not {b : Nat} (h : fmay b = false) : wput b = [] := by unfold wput; rw [h]; rfl
end Go.Proofs.YtmnndehoopmmaaaGreatDoor
