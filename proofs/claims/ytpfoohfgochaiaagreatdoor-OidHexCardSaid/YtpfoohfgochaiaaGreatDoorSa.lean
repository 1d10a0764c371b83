/- The turns of words: bits.RotateLeft32, sha.right, colporteurref1.turn. -/
import Derived.Test.YtpfoohfgochaiaaGreatDoorU
import Derived.Lib.Hide
import Derived.Deep.QuietTactic
import Derived.BigQuiet
namespace Go.Proofs.YtpfoohfgochaiaaGreatDoor
open Go.RowKit
attribute [local go_sem] un_add un_and un_or un_xor un_not
theorem rot_count (n : Int) (h0 : 0 < n) (h1 : n < 32) : bits .and .u64 (IntKind.u64.wrap (-n)) 31 = 32 - n := by
  have key : ∀ k : Fin 32, 0 < k.val → bits .and .u64 (IntKind.u64.wrap (-(k.val : Int))) 31 = 32 - (k.val : Int) := by decide +kernel
  have := key ⟨n.toNat, by omega⟩ (by simp; omega)
  simpa [Int.toNat_of_nonneg (show 0 ≤ n by omega)] using this
theorem run_shl_un {P : Program} (t : TypeId) (x : BitVec 32) (k : IntKind) (c : Int) (n : Nat) (hc : c = (n : Int)) (hn : n ≤ 32) (w : World) : (binOp .shl t (.int .u32 (un x)) (.int k c)).run P w = .ok (.int .u32 (un (x <<< n))) w := by
  subst hc
  have e : binOp .shl t (.int .u32 (un x)) (.int k (n : Int)) = Op.shift .shl .u32 (un x) k (n : Int) := rfl
  rw [e, shift_shl_u32 k _ _ (by omega) (by omega), Int.toNat_natCast, un_shl]; rfl
theorem run_shr_un {P : Program} (t : TypeId) (x : BitVec 32) (k : IntKind) (c : Int) (n : Nat) (hc : c = (n : Int)) (hn : n ≤ 32) (w : World) : (binOp .shr t (.int .u32 (un x)) (.int k c)).run P w = .ok (.int .u32 (un (x >>> n))) w := by
  subst hc
  have e : binOp .shr t (.int .u32 (un x)) (.int k (n : Int)) = Op.shift .shr .u32 (un x) k (n : Int) := rfl
  rw [e, shift_shr_u32 k _ _ (by omega) (by omega), Int.toNat_natCast, un_shr]; rfl
theorem rot_val (x : BitVec 32) (n : Int) (h0 : 0 < n) (h1 : n < 32) : bits .or .u32 (un x * 2 ^ (32 - n).toNat % 4294967296) (un x / 2 ^ (32 - (32 - n)).toNat) = un (rotr x n.toNat) := by
  have e : (32 - n).toNat = 32 - n.toNat := by omega
  have e2 : (32 - (32 - n)).toNat = n.toNat := by omega
  rw [un_shlm, un_shr, un_or, e, e2]; rfl
theorem turn_val (x : BitVec 32) (n : Int) (h0 : 0 < n) (h1 : n < 32) : (un x / 2 ^ n.toNat + un x * 2 ^ (32 - n).toNat % 4294967296) % 4294967296 = un (rotr x n.toNat) := by
  have e : (32 - n).toNat = 32 - n.toNat := by omega
  rw [un_shlm, un_shr, un_addm, e, turn_sum x n.toNat (by omega) (by omega)]
set_option maxHeartbeats 400000 in
theorem rotl_any (x : BitVec 32) (n : Int) (h0 : 0 < n) (h1 : n < 32) (w : World) :
    Calls Tryz.prog 147 #[.int .u32 (un x), .int .i64 (-n)] w fun e w' => e = .returned (.int .u32 (un (rotr x n.toNat))) ∧ w = w' := by
  have HS := rot_count n h0 h1
  have HV := Lib.hid (rot_val x n h0 h1)
  go_enter Tryz.func147, Tryz.ntmps147
  go_wp2
  go_ret
  exact ⟨by rw [← HV.out]; rfl, rfl⟩
set_option maxHeartbeats 400000 in
theorem right_any (x : BitVec 32) (n : Int) (h0 : 0 < n) (h1 : n < 32) (w : World) :
    Calls Tryz.prog 122 #[.int .u32 (un x), .int .i64 n] w fun e w' => e = .returned (.int .u32 (un (rotr x n.toNat))) ∧ w = w' := by
  go_enter Tryz.func122, Tryz.ntmps122
  go_wp2_with (go_at_call 147; refine (rotl_any x n h0 h1 _).mono ?_; rintro e w' ⟨rfl, rfl⟩)
  go_ret
  exact ⟨rfl, rfl⟩
theorem turn_any (x : BitVec 32) (n : Int) (h0 : 0 < n) (h1 : n < 32) (w : World) :
    Calls Tryz.prog 124 #[.int .u32 (un x), .int .i64 n] w fun e w' => e = .returned (.int .u32 (un (rotr x n.toNat))) ∧ ∃ m, w' = w.drewN m := by
  have HV := Lib.hid (turn_val x n h0 h1)
  go_enter Tryz.func124, Tryz.ntmps124
  go_wp2
  go_quiet (fail)
  go_wp2
  go_ret
  exact ⟨by rw [← HV.out]; rfl, _, rfl⟩
end Go.Proofs.YtpfoohfgochaiaaGreatDoor
