/- math.Copysign; 64 bits. -/
import Derived.Test.YtpfoohfgochaiaaGreatDoorW
namespace Go.Proofs.YtpfoohfgochaiaaGreatDoor
open Go.RowKit
set_option maxHeartbeats 400000 in
theorem copysign_neg0 (W : World) : Calls Tryz.prog 58 #[.float .f64 0, .float .f64 13830554455654793216] W fun e W' => e = .returned (.float .f64 9223372036854775808) ∧ W' = W := by
  have h1 := run_bits
  have h2 := run_frombits
  go_enter Tryz.func58, Tryz.ntmps58
  go_wp2
  go_ret
  exact ⟨rfl, rfl⟩
theorem norm_neg0 : normV 9223372036854775808 = .tuple #[.float .f64 0, .bool true] := by kernel_rfl
theorem may_nan : fmay 9221120237041090561 = false := by kernel_rfl
end Go.Proofs.YtpfoohfgochaiaaGreatDoor
