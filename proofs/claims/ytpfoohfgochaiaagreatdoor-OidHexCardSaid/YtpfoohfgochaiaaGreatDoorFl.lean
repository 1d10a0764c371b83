/- Floats: what is no NaN stays none; quotients and products by what is no nought. -/
import Derived.Test.YtpfoohfgochaiaaGreatDoorF
import Derived.Laws.FloatArith
import Derived.Laws.FloatBits
import Derived.Laws.Cover2
namespace Go.Proofs.YtpfoohfgochaiaaGreatDoor
open Ieee
/-- No NaN. -/
def fnum (b : Nat) : Prop := frung b ≤ finfR
theorem word_rung (n : Bool) (r : Nat) (h : r ≤ 9218868437227405312) : frung (double.word n r) = r := by
  have hw : double.signWeight = 9223372036854775808 := by decide
  unfold Format.word frung
  rw [hw]
  split <;> omega
theorem nearest_num (n : Bool) (m : Nat) (e : Int) : fnum (double.nearest n m e) := by
  have hi : double.infRung = 9218868437227405312 := by decide
  unfold fnum Format.nearest
  split
  · rw [word_rung _ _ (by omega)]; unfold finfR; omega
  · simp only [hi]
    rw [word_rung _ _ (Nat.min_le_right _ _)]
    exact Nat.min_le_right _ _
theorem write_num (n : Bool) (m : Nat) (e : Int) : fnum (double.write (.number n m e)) := nearest_num n m e
theorem write_inf (n : Bool) : fnum (double.write (.infinity n)) := by
  have hi : double.infRung = 9218868437227405312 := by decide
  unfold fnum Format.write
  simp only [hi]
  rw [word_rung _ _ (Nat.le_refl _)]
  exact Nat.le_refl _
theorem read_num {b : Nat} (h : fnum b) : (∃ n m e, double.read b = .number n m e) ∨ ∃ n, double.read b = .infinity n := by
  rcases Nat.lt_or_eq_of_le h with h | h
  · obtain ⟨m, e, h1, _⟩ := read_fin b h
    exact .inl ⟨_, m, e, h1⟩
  · exact .inr ⟨_, read_inf b h⟩
/-- A quotient by a number that is not 0. -/
theorem div_num {a b : Nat} (ha : fnum a) (n : Bool) (m : Nat) (e : Int) (hb : double.read b = .number n m e) (hm : m ≠ 0) : ∃ r, double.div a b = some r ∧ fnum r := by
  unfold Format.div
  rw [hb]
  rcases read_num ha with ⟨n1, m1, e1, h1⟩ | ⟨n1, h1⟩
  · rw [h1]
    simp only [Datum.quotient, if_neg hm, Option.map_some]
    exact ⟨_, rfl, write_num _ _ _⟩
  · rw [h1]
    simp only [Datum.quotient, Option.map_some]
    exact ⟨_, rfl, write_inf _⟩
theorem mul_num {a b : Nat} (ha : fnum a) (n : Bool) (m : Nat) (e : Int) (hb : double.read b = .number n m e) (hm : m ≠ 0) : ∃ r, double.mul a b = some r ∧ fnum r := by
  unfold Format.mul
  rw [hb]
  rcases read_num ha with ⟨n1, m1, e1, h1⟩ | ⟨n1, h1⟩
  · rw [h1]
    simp only [Datum.product, Option.map_some]
    exact ⟨_, rfl, write_num _ _ _⟩
  · rw [h1]
    simp only [Datum.product, if_neg hm, Option.map_some]
    exact ⟨_, rfl, write_inf _⟩
def fdiv (a b : Nat) : Nat := (double.div a b).getD 0
def fmul (a b : Nat) : Nat := (double.mul a b).getD 0
theorem ofInt_num (n : Int) : fnum (floatOfInt .f64 n) := write_num _ _ _
theorem fdiv_bits {a b r : Nat} (h : double.div a b = some r) : floatBits .quo .f64 a b = some (fdiv a b) := by
  unfold fdiv; rw [h]; exact h
theorem fmul_bits {a b r : Nat} (h : double.mul a b = some r) : floatBits .mul .f64 a b = some (fmul a b) := by
  unfold fmul; rw [h]; exact h
/-- 10 to the power j; what a letter multiplies by. -/
def f10 (j : Nat) : Nat := [4607182418800017408, 4621819117588971520, 4636737291354636288, 4652007308841189376].getD j 0
theorem f10_read (j : Nat) (h : j ≤ 3) : ∃ n m e, double.read (f10 j) = .number n m e ∧ m ≠ 0 := by
  rcases (by omega : j = 0 ∨ j = 1 ∨ j = 2 ∨ j = 3) with rfl | rfl | rfl | rfl <;> exact ⟨_, _, _, rfl, by decide⟩
theorem f10_succ (j : Nat) (h : j < 3) : floatBits .mul .f64 (f10 j) 4621819117588971520 = some (f10 (j + 1)) := by
  rcases (by omega : j = 0 ∨ j = 1 ∨ j = 2) with rfl | rfl | rfl <;> rfl
theorem k1_read : ∃ n m e, double.read 4607182418800017408 = .number n m e ∧ m ≠ 0 := ⟨_, _, _, rfl, by decide⟩
theorem kk_read : ∃ n m e, double.read 4652218415073722368 = .number n m e ∧ m ≠ 0 := ⟨_, _, _, rfl, by decide⟩
theorem km_read : ∃ n m e, double.read 4697254411347427328 = .number n m e ∧ m ≠ 0 := ⟨_, _, _, rfl, by decide⟩
end Go.Proofs.YtpfoohfgochaiaaGreatDoor
