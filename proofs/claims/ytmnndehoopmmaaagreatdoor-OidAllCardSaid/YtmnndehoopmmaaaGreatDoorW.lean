/- when: floats and their bits. math.Copysign; 64 bits. -/
import Derived.Test.YtmnndehoopmmaaaGreatDoorHn
namespace Go.Proofs.YtmnndehoopmmaaaGreatDoor
open Go.RowKit
theorem run_bits (W : World) (b : Nat) : (callFunc 23 #[.float .f64 b]).run Tryz.prog W = .ok (.value (.int .u64 b)) W := by kernel_rfl
theorem run_frombits (W : World) (b : Int) : (callFunc 13 #[.int .u64 b]).run Tryz.prog W = .ok (.value (.float .f64 b.toNat)) W := by kernel_rfl
/-- Not a number; below 0 (or the nought below 0). -/
def fnan (b : Nat) : Bool := FloatKind.f64.format.order b b != some Ordering.eq
def fsign (b : Nat) : Bool := decide (wrap64 (b : Int) < 0)
set_option maxHeartbeats 400000 in
theorem isnan_any (W : World) (b : Nat) : Calls Tryz.prog 66 #[.float .f64 b] W fun e W' => e = .returned (.bool (fnan b)) ∧ W' = W := by
  go_enter Tryz.func66, Tryz.ntmps66
  go_wp2
  go_ret
  exact ⟨rfl, rfl⟩
set_option maxHeartbeats 400000 in
theorem signbit_any (W : World) (b : Nat) : Calls Tryz.prog 71 #[.float .f64 b] W fun e W' => e = .returned (.bool (fsign b)) ∧ W' = W := by
  have hb := fun W => run_bits W b
  go_enter Tryz.func71, Tryz.ntmps71
  go_wp2
  go_ret
  exact ⟨rfl, rfl⟩
def fabs (b : Nat) : Nat := (bits .andNot .u64 (b : Int) 9223372036854775808).toNat
set_option maxHeartbeats 400000 in
theorem abs_any (W : World) (b : Nat) : Calls Tryz.prog 106 #[.float .f64 b] W fun e W' => e = .returned (.float .f64 (fabs b)) ∧ W' = W := by
  have h1 := fun W => run_bits W b
  have h2 := fun W b => run_frombits W b
  go_enter Tryz.func106, Tryz.ntmps106
  go_wp2
  go_ret
  exact ⟨rfl, rfl⟩
def finf (b : Nat) : Bool := FloatKind.f64.format.order (fabs b) 9218868437227405311 == some Ordering.gt
set_option maxRecDepth 10000 in
set_option maxHeartbeats 400000 in
theorem isinf_any (W : World) (b : Nat) : Calls Tryz.prog 70 #[.float .f64 b, .int .i64 0] W fun e W' => e = .returned (.bool (finf b)) ∧ W' = W := by
  go_enter Tryz.func70, Tryz.ntmps70
  go_wp2_with (go_at_call 106; refine (abs_any _ b).mono ?_; rintro e w' ⟨rfl, rfl⟩)
  go_ret
  exact ⟨rfl, rfl⟩
/-- Other than 0. -/
def fnz (b : Nat) : Bool := FloatKind.f64.format.order b 0 != some Ordering.eq
def fmay (b : Nat) : Bool := !fnan b && !finf b && (fnz b || !fsign b)
set_option maxRecDepth 10000 in
set_option maxHeartbeats 800000 in
theorem may_any (W : World) (b : Nat) : Calls Tryz.prog 18 #[.float .f64 b] W fun e W' => e = .returned (.bool (fmay b)) ∧ W' = W := by
  cases hn : fnan b
  · cases hi : finf b
    · cases hz : (FloatKind.f64.format.order b 0 != some Ordering.eq)
      all_goals
        go_enter Tryz.func18, Tryz.ntmps18
        go_wp2_with (first | (go_at_call 66; refine (isnan_any _ b).mono ?_; rintro e w' ⟨he, rfl⟩; rw [hn] at he; subst he) | (go_at_call 70; refine (isinf_any _ b).mono ?_; rintro e w' ⟨he, rfl⟩; rw [hi] at he; subst he) | (go_at_call 71; refine (signbit_any _ b).mono ?_; rintro e w' ⟨rfl, rfl⟩))
        go_ret
        exact ⟨by simp [fmay, fnz, hn, hi, hz], rfl⟩
    · go_enter Tryz.func18, Tryz.ntmps18
      go_wp2_with (first | (go_at_call 66; refine (isnan_any _ b).mono ?_; rintro e w' ⟨he, rfl⟩; rw [hn] at he; subst he) | (go_at_call 70; refine (isinf_any _ b).mono ?_; rintro e w' ⟨he, rfl⟩; rw [hi] at he; subst he) | (go_at_call 71; refine (signbit_any _ b).mono ?_; rintro e w' ⟨rfl, rfl⟩))
      go_ret
      exact ⟨by simp [fmay, hn, hi], rfl⟩
  · cases hi : finf b
    all_goals
      go_enter Tryz.func18, Tryz.ntmps18
      go_wp2_with (first | (go_at_call 66; refine (isnan_any _ b).mono ?_; rintro e w' ⟨he, rfl⟩; rw [hn] at he; subst he) | (go_at_call 70; refine (isinf_any _ b).mono ?_; rintro e w' ⟨he, rfl⟩; rw [hi] at he; subst he) | (go_at_call 71; refine (signbit_any _ b).mono ?_; rintro e w' ⟨rfl, rfl⟩))
      go_ret
      exact ⟨by simp [fmay, hn], rfl⟩
def normV (b : Nat) : Value := .tuple #[.float .f64 (bif fnz b && fmay b then b else 0), .bool (!fnz b || fmay b)]
set_option maxRecDepth 10000 in
set_option maxHeartbeats 800000 in
theorem norm_any (W : World) (b : Nat) : Calls Tryz.prog 20 #[.float .f64 b] W fun e W' => e = .returned (normV b) ∧ W' = W := by
  cases hz : (FloatKind.f64.format.order b 0 == some Ordering.eq)
  · have hz2 : fnz b = true := by simp [fnz, bne, hz]
    cases hm : fmay b
    all_goals
      go_enter Tryz.func20, Tryz.ntmps20
      go_wp2_with (go_at_call 18; refine (may_any _ b).mono ?_; rintro e w' ⟨he, rfl⟩; rw [hm] at he; subst he)
      go_ret2
      exact ⟨by simp [normV, hz2, hm], rfl⟩
  · have hz2 : fnz b = false := by simp [fnz, bne, hz]
    go_enter Tryz.func20, Tryz.ntmps20
    go_wp2
    go_ret2
    exact ⟨by simp [normV, hz2], rfl⟩
end Go.Proofs.YtmnndehoopmmaaaGreatDoor
namespace Go.Proofs.YtmnndehoopmmaaaGreatDoor
open Go.RowKit
set_option maxHeartbeats 400000 in
theorem copysign_neg0 (W : World) : Calls Tryz.prog 31 #[.float .f64 0, .float .f64 13830554455654793216] W fun e W' => e = .returned (.float .f64 9223372036854775808) ∧ W' = W := by
  have h1 := run_bits
  have h2 := run_frombits
  go_enter Tryz.func31, Tryz.ntmps31
  go_wp2
  go_ret
  exact ⟨rfl, rfl⟩
theorem norm_neg0 : normV 9223372036854775808 = .tuple #[.float .f64 0, .bool true] := by kernel_rfl
theorem may_nan : fmay 9221120237041090561 = false := by kernel_rfl
end Go.Proofs.YtmnndehoopmmaaaGreatDoor
