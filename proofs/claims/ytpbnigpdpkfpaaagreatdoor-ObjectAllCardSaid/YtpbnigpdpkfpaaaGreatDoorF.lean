/- Floats of 64 bits by their words: a word's key (its rung with its sign) orders what is a number. Floats: what is no NaN stays none; quotients and products by what is no nought. Texts as lists of bytes. -/
import GoSem.Core.Float
import Derived.Laws.FloatArith
import Derived.Laws.FloatBits
import Derived.Laws.Cover2
import Derived.WalkKit
import Derived.WalkSpells
namespace Go.Proofs.YtpbnigpdpkfpaaaGreatDoor
open Ieee
/-- A word's rung, its sign, its key. -/
def frung (b : Nat) : Nat := b % 9223372036854775808
def fneg (b : Nat) : Bool := b / 9223372036854775808 % 2 == 1
def fkey (b : Nat) : Int := if fneg b then -(frung b : Int) else (frung b : Int)
def finfR : Nat := 9218868437227405312
/-- A rung's magnitude, in units of the least place. -/
def fmag (r : Nat) : Nat := if r < 4503599627370496 then r else (4503599627370496 + r % 4503599627370496) * 2 ^ (r / 4503599627370496 - 1)
theorem fmag_lt {r s : Nat} (h : r < s) : fmag r < fmag s := by
  unfold fmag
  by_cases hs : s < 4503599627370496
  · rw [if_pos hs, if_pos (by omega)]; exact h
  rw [if_neg hs]
  have hp : 1 ≤ 2 ^ (s / 4503599627370496 - 1) := Nat.one_le_two_pow
  by_cases hr : r < 4503599627370496
  · rw [if_pos hr]
    calc r < 4503599627370496 := hr
      _ ≤ (4503599627370496 + s % 4503599627370496) * 1 := by omega
      _ ≤ _ := Nat.mul_le_mul_left _ hp
  rw [if_neg hr]
  by_cases he : r / 4503599627370496 = s / 4503599627370496
  · rw [he]
    exact Nat.mul_lt_mul_of_pos_right (by omega) (by omega)
  · have hlt : r / 4503599627370496 + 1 ≤ s / 4503599627370496 := by omega
    have h1 : 2 ^ (r / 4503599627370496 - 1) * 2 ≤ 2 ^ (s / 4503599627370496 - 1) := by
      rw [← Nat.pow_succ]
      exact Nat.pow_le_pow_right (by omega) (by omega)
    have h0 : 1 ≤ 2 ^ (r / 4503599627370496 - 1) := Nat.one_le_two_pow
    generalize 2 ^ (r / 4503599627370496 - 1) = p at *
    generalize 2 ^ (s / 4503599627370496 - 1) = q at *
    have h2 : (4503599627370496 + r % 4503599627370496) * p < 9007199254740992 * p := Nat.mul_lt_mul_of_pos_right (by omega) (by omega)
    have h3 : 4503599627370496 * q ≤ (4503599627370496 + s % 4503599627370496) * q := Nat.mul_le_mul_right _ (by omega)
    omega
theorem fmag_inj {r s : Nat} (h : fmag r = fmag s) : r = s := by
  rcases Nat.lt_trichotomy r s with hl | he | hl
  · have := fmag_lt hl; omega
  · exact he
  · have := fmag_lt hl; omega
theorem fmag_zero : fmag 0 = 0 := rfl
/-- The key's magnitude with its sign. -/
def fval (b : Nat) : Int := if fneg b then -(fmag (frung b) : Int) else (fmag (frung b) : Int)
theorem fval_lt (a b : Nat) : fval a < fval b ↔ fkey a < fkey b := by
  have m0 : ∀ r, fmag r = 0 ↔ r = 0 := fun r => ⟨fun h => fmag_inj (by rw [h, fmag_zero]), fun h => by rw [h, fmag_zero]⟩
  have ml : ∀ r s, fmag r < fmag s ↔ r < s := fun r s => ⟨fun h => by
    rcases Nat.lt_or_ge r s with hl | hl
    · exact hl
    · rcases Nat.lt_or_eq_of_le hl with hl | rfl
      · have := fmag_lt hl; omega
      · omega, fmag_lt⟩
  have a0 := m0 (frung a); have b0 := m0 (frung b); have l1 := ml (frung a) (frung b); have l2 := ml (frung b) (frung a)
  unfold fval fkey
  cases fneg a <;> cases fneg b <;> simp <;> omega
theorem fval_eq (a b : Nat) : fval a = fval b ↔ fkey a = fkey b := by
  have h1 := fval_lt a b; have h2 := fval_lt b a
  constructor
  · intro h; rcases Int.lt_trichotomy (fkey a) (fkey b) with k | k | k
    · have := h1.mpr k; omega
    · exact k
    · have := h2.mpr k; omega
  · intro h; rcases Int.lt_trichotomy (fval a) (fval b) with k | k | k
    · have := h1.mp k; omega
    · exact k
    · have := h2.mp k; omega
/-- What is read of a finite word. -/
theorem read_fin (b : Nat) (h : frung b < finfR) : ∃ m e, double.read b = .number (fneg b) m e ∧ -1074 ≤ e ∧ (m <<< (e + 1074).toNat) = fmag (frung b) := by
  have hw : double.signWeight = 9223372036854775808 := by decide
  have hb : double.binade = 4503599627370496 := by decide
  have hl : double.leastPlace = -1074 := by decide
  have hi : double.infRung = 9218868437227405312 := by decide
  unfold frung finfR at h
  unfold Format.read
  simp only [hw, hb, hl, hi]
  by_cases h1 : b % 9223372036854775808 < 4503599627370496
  · rw [if_pos h1]
    refine ⟨_, _, rfl, by omega, ?_⟩
    unfold fmag frung
    rw [if_pos h1]; simp
  · rw [if_neg h1, if_pos h]
    refine ⟨_, _, rfl, by omega, ?_⟩
    unfold fmag frung
    rw [if_neg h1, Nat.shiftLeft_eq]
    congr 2
    omega
theorem read_inf (b : Nat) (h : frung b = finfR) : double.read b = .infinity (fneg b) := by
  have hw : double.signWeight = 9223372036854775808 := by decide
  have hb : double.binade = 4503599627370496 := by decide
  have hi : double.infRung = 9218868437227405312 := by decide
  unfold frung finfR at h
  unfold Format.read
  simp only [hw, hb, hi]
  rw [if_neg (by omega), if_neg (by omega), if_pos h]
  rfl
theorem read_nan (b : Nat) (h : finfR < frung b) : ∃ n t, double.read b = .nan n t := by
  have hw : double.signWeight = 9223372036854775808 := by decide
  have hb : double.binade = 4503599627370496 := by decide
  have hi : double.infRung = 9218868437227405312 := by decide
  unfold frung finfR at h
  unfold Format.read
  simp only [hw, hb, hi]
  rw [if_neg (by omega), if_neg (by omega), if_neg (by omega)]
  exact ⟨_, _, rfl⟩
theorem compare_scale (x y : Int) (n : Nat) : compare (x * (2 ^ n : Nat)) (y * (2 ^ n : Nat)) = compare x y := by
  have hp : (0 : Int) < ((2 ^ n : Nat) : Int) := by have := Nat.two_pow_pos n; omega
  generalize ((2 ^ n : Nat) : Int) = p at hp
  rcases Int.lt_trichotomy x y with h | h | h
  · rw [Int.compare_eq_lt.mpr h, Int.compare_eq_lt.mpr (Int.mul_lt_mul_of_pos_right h hp)]
  · rw [h, Int.compare_eq_eq.mpr rfl, Int.compare_eq_eq.mpr rfl]
  · rw [Int.compare_eq_gt.mpr h, Int.compare_eq_gt.mpr (Int.mul_lt_mul_of_pos_right h hp)]
theorem signed_scale (s : Bool) (m u v : Nat) : signed s m u * (2 ^ v : Nat) = signed s (m <<< (u + v)) 0 := by
  unfold signed
  simp only [Nat.shiftLeft_eq, Nat.pow_zero, Nat.mul_one, Nat.pow_add]
  cases s <;> simp [Int.mul_assoc, Int.neg_mul]
theorem compare_val (a b : Nat) : compare (fval a) (fval b) = compare (fkey a) (fkey b) := by
  have h1 := fval_lt a b; have h2 := fval_lt b a; have h3 := fval_eq a b
  rcases Int.lt_trichotomy (fkey a) (fkey b) with h | h | h
  · rw [Int.compare_eq_lt.mpr h, Int.compare_eq_lt.mpr (h1.mpr h)]
  · rw [Int.compare_eq_eq.mpr h, Int.compare_eq_eq.mpr (h3.mpr h)]
  · rw [Int.compare_eq_gt.mpr h, Int.compare_eq_gt.mpr (h2.mpr h)]
theorem order_fin (a b : Nat) (ha : frung a < finfR) (hb : frung b < finfR) : double.order a b = some (compare (fkey a) (fkey b)) := by
  obtain ⟨m, e, h1, h2, h3⟩ := read_fin a ha
  obtain ⟨n, f, k1, k2, k3⟩ := read_fin b hb
  unfold Format.order
  rw [h1, k1]
  simp only [Datum.order]
  rw [← compare_scale _ _ (min e f + 1074).toNat, signed_scale, signed_scale, show (e - min e f).toNat + (min e f + 1074).toNat = (e + 1074).toNat by omega, show (f - min e f).toNat + (min e f + 1074).toNat = (f + 1074).toNat by omega, h3, k3, ← compare_val]
  unfold signed fval
  simp
theorem order_key (a b : Nat) (ha : frung a ≤ finfR) (hb : frung b ≤ finfR) : double.order a b = some (compare (fkey a) (fkey b)) := by
  rcases Nat.lt_or_eq_of_le ha with ha' | ha'
  · rcases Nat.lt_or_eq_of_le hb with hb' | hb'
    · exact order_fin a b ha' hb'
    · obtain ⟨m, e, h1, _, _⟩ := read_fin a ha'
      unfold Format.order
      rw [h1, read_inf b hb']
      simp only [Datum.order]
      congr 1
      unfold fkey
      rw [hb']
      cases fneg b <;> simp
      · symm; rw [Int.compare_eq_lt]; split <;> omega
      · symm; rw [Int.compare_eq_gt]; split <;> omega
  · rcases Nat.lt_or_eq_of_le hb with hb' | hb'
    · obtain ⟨m, e, h1, _, _⟩ := read_fin b hb'
      unfold Format.order
      rw [h1, read_inf a ha']
      simp only [Datum.order]
      congr 1
      unfold fkey
      rw [ha']
      cases fneg a <;> simp
      · symm; rw [Int.compare_eq_gt]; split <;> omega
      · symm; rw [Int.compare_eq_lt]; split <;> omega
    · unfold Format.order
      rw [read_inf a ha', read_inf b hb']
      simp only [Datum.order]
      congr 1
      unfold fkey
      rw [ha', hb']
      cases fneg a <;> cases fneg b <;> decide
theorem order_nan_l (a b : Nat) (h : finfR < frung a) : double.order a b = none := by
  obtain ⟨n, t, h1⟩ := read_nan a h
  unfold Format.order
  rw [h1]
  cases double.read b <;> rfl
end Go.Proofs.YtpbnigpdpkfpaaaGreatDoor
namespace Go.Proofs.YtpbnigpdpkfpaaaGreatDoor
open Ieee
/-- No NaN. -/
def fnum (b : Nat) : Prop := frung b ≤ finfR
theorem word_rung (n : Bool) (r : Nat) (h : r ≤ 9218868437227405312) : frung (double.word n r) = r := by
  have hw : double.signWeight = 9223372036854775808 := by decide
  unfold Format.word frung
  rw [hw]
  split <;> omega
theorem nearest_num (n : Bool) (m : Nat) (e : Int) : fnum (double.nearest n m e) := by
  have hi : double.infRung = 9218868437227405312 := by decide
  unfold fnum Format.nearest
  split
  · rw [word_rung _ _ (by omega)]; unfold finfR; omega
  · simp only [hi]
    rw [word_rung _ _ (Nat.min_le_right _ _)]
    exact Nat.min_le_right _ _
theorem write_num (n : Bool) (m : Nat) (e : Int) : fnum (double.write (.number n m e)) := nearest_num n m e
theorem write_inf (n : Bool) : fnum (double.write (.infinity n)) := by
  have hi : double.infRung = 9218868437227405312 := by decide
  unfold fnum Format.write
  simp only [hi]
  rw [word_rung _ _ (Nat.le_refl _)]
  exact Nat.le_refl _
theorem read_num {b : Nat} (h : fnum b) : (∃ n m e, double.read b = .number n m e) ∨ ∃ n, double.read b = .infinity n := by
  rcases Nat.lt_or_eq_of_le h with h | h
  · obtain ⟨m, e, h1, _⟩ := read_fin b h
    exact .inl ⟨_, m, e, h1⟩
  · exact .inr ⟨_, read_inf b h⟩
/-- A quotient by a number that is not 0. -/
theorem div_num {a b : Nat} (ha : fnum a) (n : Bool) (m : Nat) (e : Int) (hb : double.read b = .number n m e) (hm : m ≠ 0) : ∃ r, double.div a b = some r ∧ fnum r := by
  unfold Format.div
  rw [hb]
  rcases read_num ha with ⟨n1, m1, e1, h1⟩ | ⟨n1, h1⟩
  · rw [h1]
    simp only [Datum.quotient, if_neg hm, Option.map_some]
    exact ⟨_, rfl, write_num _ _ _⟩
  · rw [h1]
    simp only [Datum.quotient, Option.map_some]
    exact ⟨_, rfl, write_inf _⟩
theorem mul_num {a b : Nat} (ha : fnum a) (n : Bool) (m : Nat) (e : Int) (hb : double.read b = .number n m e) (hm : m ≠ 0) : ∃ r, double.mul a b = some r ∧ fnum r := by
  unfold Format.mul
  rw [hb]
  rcases read_num ha with ⟨n1, m1, e1, h1⟩ | ⟨n1, h1⟩
  · rw [h1]
    simp only [Datum.product, Option.map_some]
    exact ⟨_, rfl, write_num _ _ _⟩
  · rw [h1]
    simp only [Datum.product, if_neg hm, Option.map_some]
    exact ⟨_, rfl, write_inf _⟩
def fdiv (a b : Nat) : Nat := (double.div a b).getD 0
def fmul (a b : Nat) : Nat := (double.mul a b).getD 0
theorem ofInt_num (n : Int) : fnum (floatOfInt .f64 n) := write_num _ _ _
theorem fdiv_bits {a b r : Nat} (h : double.div a b = some r) : floatBits .quo .f64 a b = some (fdiv a b) := by
  unfold fdiv; rw [h]; exact h
theorem fmul_bits {a b r : Nat} (h : double.mul a b = some r) : floatBits .mul .f64 a b = some (fmul a b) := by
  unfold fmul; rw [h]; exact h
/-- 10 to the power j; what a letter multiplies by. -/
def f10 (j : Nat) : Nat := [4607182418800017408, 4621819117588971520, 4636737291354636288, 4652007308841189376].getD j 0
theorem f10_read (j : Nat) (h : j ≤ 3) : ∃ n m e, double.read (f10 j) = .number n m e ∧ m ≠ 0 := by
  rcases (by omega : j = 0 ∨ j = 1 ∨ j = 2 ∨ j = 3) with rfl | rfl | rfl | rfl <;> exact ⟨_, _, _, rfl, by decide⟩
theorem f10_succ (j : Nat) (h : j < 3) : floatBits .mul .f64 (f10 j) 4621819117588971520 = some (f10 (j + 1)) := by
  rcases (by omega : j = 0 ∨ j = 1 ∨ j = 2) with rfl | rfl | rfl <;> rfl
theorem k1_read : ∃ n m e, double.read 4607182418800017408 = .number n m e ∧ m ≠ 0 := ⟨_, _, _, rfl, by decide⟩
theorem kk_read : ∃ n m e, double.read 4652218415073722368 = .number n m e ∧ m ≠ 0 := ⟨_, _, _, rfl, by decide⟩
theorem km_read : ∃ n m e, double.read 4697254411347427328 = .number n m e ∧ m ≠ 0 := ⟨_, _, _, rfl, by decide⟩
end Go.Proofs.YtpbnigpdpkfpaaaGreatDoor
namespace Go.Proofs.YtpbnigpdpkfpaaaGreatDoor
theorem ba_ext {a b : ByteArray} (h : a.data.toList = b.data.toList) : a = b := by
  cases a; cases b
  simp only at h
  congr 1
  exact Array.toList_inj.1 h
theorem ba_size (s : ByteArray) : s.size = s.data.toList.length := (Array.length_toList (xs := s.data)).symm
theorem ba_append (a b : ByteArray) : (a ++ b).data.toList = a.data.toList ++ b.data.toList := by
  rw [ByteArray.data_append]; simp
theorem ba_extract (a : ByteArray) (i j : Nat) : (a.extract i j).data.toList = (a.data.toList.take j).drop i := by
  rw [ByteArray.data_extract]; simp [List.extract_eq_take_drop, List.drop_take]
theorem ba_from (a : ByteArray) (i : Nat) : (a.extract i a.size).data.toList = a.data.toList.drop i := by
  rw [ba_extract, ba_size, List.take_length]
theorem ba_upto (a : ByteArray) (j : Nat) : (a.extract 0 j).data.toList = a.data.toList.take j := by
  rw [ba_extract]; simp
end Go.Proofs.YtpbnigpdpkfpaaaGreatDoor
