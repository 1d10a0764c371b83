/- when.Less: an order of all floats. -/
import Derived.Test.YtmnndehoopmmaaaGreatDoorFc
namespace Go.Proofs.YtmnndehoopmmaaaGreatDoor
open Go.RowKit
/-- Where a float stands in the order. -/
def kk (b : Nat) : Int := if finfR < frung b then 100000000000000000000 else if frung b = 0 then (if fneg b then -1 else 0) else 2 * fkey b
def fless (a b : Nat) : Bool := decide (kk a < kk b)
theorem fkey_le (b : Nat) (h : frung b ≤ finfR) : fkey b ≤ 9218868437227405312 ∧ -9218868437227405312 ≤ fkey b := by
  unfold finfR at h
  unfold fkey
  cases fneg b <;> simp <;> omega
theorem kk_num (b : Nat) (h : frung b ≤ finfR) : kk b < 100000000000000000000 ∧ (frung b ≠ 0 → kk b = 2 * fkey b ∧ fkey b ≠ 0) ∧ (frung b = 0 → (kk b = 0 ∨ kk b = -1) ∧ fkey b = 0) := by
  have hl := fkey_le b h
  have hz := fkey_zero b
  unfold kk
  rw [if_neg (by omega)]
  by_cases h0 : frung b = 0
  · rw [if_pos h0]
    refine ⟨by split <;> omega, fun e => absurd h0 e, fun _ => ⟨by split <;> simp, hz.mpr h0⟩⟩
  · rw [if_neg h0]
    exact ⟨by omega, fun _ => ⟨rfl, fun e => h0 (hz.mp e)⟩, fun e => absurd e h0⟩
theorem kk_nan (b : Nat) (h : finfR < frung b) : kk b = 100000000000000000000 := by
  unfold kk; rw [if_pos h]
theorem order_lt_kk (a b : Nat) (ha : frung a ≤ finfR) (hb : frung b ≤ finfR) (h0 : ¬ (frung a = 0 ∧ frung b = 0)) : (FloatKind.f64.format.order a b == some Ordering.lt) = fless a b := by
  have ka := kk_num a ha
  have kb := kk_num b hb
  rw [f64_double, order_key a b ha hb]
  unfold fless
  have hiff : kk a < kk b ↔ fkey a < fkey b := by
    by_cases a0 : frung a = 0 <;> by_cases b0 : frung b = 0
    · exact absurd ⟨a0, b0⟩ h0
    · have := ka.2.2 a0; have := kb.2.1 b0; omega
    · have := ka.2.1 a0; have := kb.2.2 b0; omega
    · have := ka.2.1 a0; have := kb.2.1 b0; omega
  rcases Int.lt_trichotomy (fkey a) (fkey b) with k | k | k
  · rw [Int.compare_eq_lt.mpr k, decide_eq_true (hiff.mpr k)]; rfl
  · rw [Int.compare_eq_eq.mpr k, decide_eq_false (fun e => by have := hiff.mp e; omega)]; rfl
  · rw [Int.compare_eq_gt.mpr k, decide_eq_false (fun e => by have := hiff.mp e; omega)]; rfl
theorem order_eq_zero (a : Nat) (ha : frung a ≤ finfR) : (FloatKind.f64.format.order a 0 == some Ordering.eq) = decide (frung a = 0) := by
  rw [f64_double, order_zero a ha]
  by_cases h0 : frung a = 0
  · rw [(fkey_zero a).mpr h0, decide_eq_true h0]; rfl
  · have hk : fkey a ≠ 0 := fun e => h0 ((fkey_zero a).mp e)
    rw [decide_eq_false h0]
    rcases Int.lt_trichotomy (fkey a) 0 with k | k | k
    · rw [Int.compare_eq_lt.mpr k]; rfl
    · exact absurd k hk
    · rw [Int.compare_eq_gt.mpr k]; rfl
set_option maxHeartbeats 1600000 in
theorem less_any (w : World) (a b : Nat) (ha : a < 18446744073709551616) (hb : b < 18446744073709551616) : Calls Tryz.prog 24 #[.float .f64 a, .float .f64 b] w fun e w' => e = .returned (.bool (fless a b)) ∧ w = w' := by
  have nT : ∀ x, finfR < frung x → ∀ w, Calls Tryz.prog 66 #[.float .f64 x] w fun e w' => e = .returned (.bool true) ∧ w = w' := fun x hx w => (isnan_any w x).mono (by rintro e w' ⟨rfl, rfl⟩; exact ⟨by rw [fnan_true x hx], rfl⟩)
  have nF : ∀ x, frung x ≤ finfR → ∀ w, Calls Tryz.prog 66 #[.float .f64 x] w fun e w' => e = .returned (.bool false) ∧ w = w' := fun x hx w => (isnan_any w x).mono (by rintro e w' ⟨rfl, rfl⟩; exact ⟨by rw [fnan_false x hx], rfl⟩)
  rcases Nat.lt_or_ge finfR (frung a) with an | an
  · have cA := nT a an
    have hr : fless a b = false := by
      unfold fless
      rw [kk_nan a an, decide_eq_false]
      rcases Nat.lt_or_ge finfR (frung b) with bn | bn
      · rw [kk_nan b bn]; omega
      · have := (kk_num b bn).1; omega
    rw [hr]
    clear nT nF an ha hb hr
    go_enter Tryz.func24, Tryz.ntmps24
    go_wp2_with (go_at_call 66; refine (cA _).mono ?_; rintro e w' ⟨rfl, rfl⟩)
    go_ret
    exact ⟨rfl, rfl⟩
  have cA := nF a an
  rcases Nat.lt_or_ge finfR (frung b) with bn | bn
  · have cB := nT b bn
    have hr : fless a b = true := by
      unfold fless
      rw [kk_nan b bn, decide_eq_true (kk_num a an).1]
    rw [hr]
    clear nT nF an bn ha hb hr
    go_enter Tryz.func24, Tryz.ntmps24
    go_wp2_with (first | (go_at_call 66; (with_reducible refine (cA _).mono ?_); rintro e w' ⟨rfl, rfl⟩) | (go_at_call 66; (with_reducible refine (cB _).mono ?_); rintro e w' ⟨rfl, rfl⟩))
    go_ret
    exact ⟨rfl, rfl⟩
  have cB := nF b bn
  have za := order_eq_zero a an
  have zb := order_eq_zero b bn
  by_cases a0 : frung a = 0
  · rw [decide_eq_true a0] at za
    by_cases b0 : frung b = 0
    · clear nT nF an bn za zb cA cB
      have cA := fun w => isnan_any w a
      have s1 := fun w => signbit_any w 0
      have s2 := fun w => signbit_any w 9223372036854775808
      rw [show fsign 0 = false from by kernel_rfl] at s1
      rw [show fsign 9223372036854775808 = true from by kernel_rfl] at s2
      have n1 := fun w => isnan_any w 0
      have n2 := fun w => isnan_any w 9223372036854775808
      rw [show fnan 0 = false from by kernel_rfl] at n1
      rw [show fnan 9223372036854775808 = false from by kernel_rfl] at n2
      have o1 : (FloatKind.f64.format.order 0 0 == some Ordering.eq) = true := by kernel_rfl
      have o2 : (FloatKind.f64.format.order 9223372036854775808 0 == some Ordering.eq) = true := by kernel_rfl
      have l1 : fless 0 0 = false := by decide
      have l2 : fless 0 9223372036854775808 = false := by decide
      have l3 : fless 9223372036854775808 0 = true := by decide
      have l4 : fless 9223372036854775808 9223372036854775808 = false := by decide
      rcases fzero a ha a0 with rfl | rfl <;> rcases fzero b hb b0 with rfl | rfl
      all_goals
        first | rw [l1] | rw [l2] | rw [l3] | rw [l4]
        clear l1 l2 l3 l4 ha hb a0 b0 cA
        go_enter Tryz.func24, Tryz.ntmps24
        go_wp2_with (first
          | (go_at_call 66; (with_reducible refine (n1 _).mono ?_); rintro e w' ⟨rfl, rfl⟩)
          | (go_at_call 66; (with_reducible refine (n2 _).mono ?_); rintro e w' ⟨rfl, rfl⟩)
          | (go_at_call 71; (with_reducible refine (s1 _).mono ?_); rintro e w' ⟨rfl, rfl⟩)
          | (go_at_call 71; (with_reducible refine (s2 _).mono ?_); rintro e w' ⟨rfl, rfl⟩))
        go_ret
        exact ⟨rfl, rfl⟩
    · have hl := order_lt_kk a b an bn (fun h => b0 h.2)
      rw [decide_eq_false b0] at zb
      clear nT nF an bn a0 b0 ha hb
      go_enter Tryz.func24, Tryz.ntmps24
      go_wp2_with (first | (go_at_call 66; (with_reducible refine (cA _).mono ?_); rintro e w' ⟨rfl, rfl⟩) | (go_at_call 66; (with_reducible refine (cB _).mono ?_); rintro e w' ⟨rfl, rfl⟩))
      go_ret
      exact ⟨rfl, rfl⟩
  · have hl := order_lt_kk a b an bn (fun h => a0 h.1)
    rw [decide_eq_false a0] at za
    clear nT nF an bn a0 ha hb zb
    go_enter Tryz.func24, Tryz.ntmps24
    go_wp2_with (first | (go_at_call 66; (with_reducible refine (cA _).mono ?_); rintro e w' ⟨rfl, rfl⟩) | (go_at_call 66; (with_reducible refine (cB _).mono ?_); rintro e w' ⟨rfl, rfl⟩))
    go_ret
    exact ⟨rfl, rfl⟩
end Go.Proofs.YtmnndehoopmmaaaGreatDoor
