/- Floats: what the program's tests say, by a word's rung. -/
import Derived.Test.YtmnndehoopmmaaaGreatDoorDg
import Derived.Test.YtmnndehoopmmaaaGreatDoorF
import Derived.Laws.BitsAllLaws
namespace Go.Proofs.YtmnndehoopmmaaaGreatDoor
open Ieee
theorem fabs_eq (b : Nat) (hb : b < 18446744073709551616) : fabs b = frung b := by
  unfold fabs frung
  have := u64_andNot_nat b 9223372036854775808 hb (by omega)
  rw [show ((9223372036854775808 : Nat) : Int) = 9223372036854775808 from rfl] at this
  rw [this, Int.toNat_natCast, show 18446744073709551615 - 9223372036854775808 = 2 ^ 63 - 1 from rfl, Nat.and_two_pow_sub_one_eq_mod]
theorem f64_double : FloatKind.f64.format = double := rfl
theorem frung_lt (b : Nat) : frung b < 9223372036854775808 := Nat.mod_lt _ (by omega)
theorem fkey_zero (b : Nat) : fkey b = 0 ↔ frung b = 0 := by
  unfold fkey; cases fneg b <;> simp
theorem order_self (b : Nat) (h : frung b ≤ finfR) : double.order b b = some .eq := by
  rw [order_key b b h h, Int.compare_eq_eq.mpr rfl]
theorem fnan_true (b : Nat) (h : finfR < frung b) : fnan b = true := by
  unfold fnan; rw [f64_double, order_nan_l b b h]; rfl
theorem fnan_false (b : Nat) (h : frung b ≤ finfR) : fnan b = false := by
  unfold fnan; rw [f64_double, order_self b h]; rfl
theorem order_zero (b : Nat) (h : frung b ≤ finfR) : double.order b 0 = some (compare (fkey b) 0) := by
  rw [order_key b 0 h (by decide), show fkey 0 = 0 from by decide]
theorem order_zero_r (b : Nat) (h : frung b ≤ finfR) : double.order 0 b = some (compare 0 (fkey b)) := by
  rw [order_key 0 b (by decide) h, show fkey 0 = 0 from by decide]
theorem fnz_true (b : Nat) (h : frung b ≠ 0) : fnz b = true := by
  unfold fnz
  rw [f64_double]
  rcases Nat.lt_or_ge finfR (frung b) with hn | hn
  · rw [order_nan_l b 0 hn]; rfl
  · rw [order_zero b hn]
    have hk : fkey b ≠ 0 := fun e => h ((fkey_zero b).mp e)
    rcases Int.lt_trichotomy (fkey b) 0 with k | k | k
    · rw [Int.compare_eq_lt.mpr k]; rfl
    · exact absurd k hk
    · rw [Int.compare_eq_gt.mpr k]; rfl
theorem fnz_false (b : Nat) (h : frung b = 0) : fnz b = false := by
  unfold fnz
  rw [f64_double, order_zero b (by rw [h]; decide), (fkey_zero b).mpr h, Int.compare_eq_eq.mpr rfl]; rfl
theorem finf_eq (b : Nat) (hb : b < 18446744073709551616) (h : frung b ≤ finfR) : finf b = decide (frung b = finfR) := by
  unfold finf
  have hl := frung_lt b
  have hr : frung (frung b) = frung b := by unfold frung; omega
  have hk : fkey (frung b) = (frung b : Int) := by
    have hn : fneg (frung b) = false := by unfold fneg; rw [Nat.div_eq_of_lt hl]; rfl
    unfold fkey; rw [hn, hr]; rfl
  rw [fabs_eq b hb, f64_double, order_key _ _ (by rw [hr]; exact h) (by decide), hk, show fkey 9218868437227405311 = 9218868437227405311 from by decide]
  unfold finfR at h ⊢
  by_cases he : frung b = 9218868437227405312
  · rw [he, decide_eq_true rfl]; decide
  · rw [decide_eq_false he]
    rcases Int.lt_trichotomy (frung b : Int) 9218868437227405311 with k | k | k
    · rw [Int.compare_eq_lt.mpr k]; rfl
    · rw [Int.compare_eq_eq.mpr k]; rfl
    · omega
theorem fmay_nan' (b : Nat) (h : finfR < frung b) : fmay b = false := by
  unfold fmay; rw [fnan_true b h]; rfl
theorem fmay_inf (b : Nat) (hb : b < 18446744073709551616) (h : frung b = finfR) : fmay b = false := by
  unfold fmay; rw [finf_eq b hb (by omega), decide_eq_true h]; simp
theorem fmay_fin (b : Nat) (hb : b < 18446744073709551616) (h : frung b < finfR) (h0 : frung b ≠ 0) : fmay b = true := by
  unfold fmay; rw [fnan_false b (by omega), finf_eq b hb (by omega), decide_eq_false (by omega), fnz_true b h0]; rfl
theorem fzero (b : Nat) (hb : b < 18446744073709551616) (h : frung b = 0) : b = 0 ∨ b = 9223372036854775808 := by
  unfold frung at h; omega
theorem normV_not (b : Nat) (h0 : frung b ≠ 0) (h : fmay b = false) : normV b = .tuple #[.float .f64 0, .bool false] := by
  unfold normV; rw [fnz_true b h0, h]; rfl
theorem normV_fin (b : Nat) (h0 : frung b ≠ 0) (h : fmay b = true) : normV b = .tuple #[.float .f64 b, .bool true] := by
  unfold normV; rw [fnz_true b h0, h]; rfl
theorem normV_zero (b : Nat) (h0 : frung b = 0) : normV b = .tuple #[.float .f64 0, .bool true] := by
  unfold normV; rw [fnz_false b h0]; rfl
end Go.Proofs.YtmnndehoopmmaaaGreatDoor
