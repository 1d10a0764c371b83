/- What a digit's value may be. colporteurlaw1.Text: what it cuts. -/
import Derived.Test.YtcomibocajjhoaaGreatDoorP4x
namespace Go.Proofs.YtcomibocajjhoaaGreatDoor
/-- A digit's number, by where its byte lies. -/
theorem hv_cases (c : UInt8) : (48 ≤ ub c ∧ ub c ≤ 57 ∧ hv c = ub c - 48) ∨ (97 ≤ ub c ∧ ub c ≤ 102 ∧ hv c = ub c - 87) ∨ ((ub c < 48 ∨ (57 < ub c ∧ ub c < 97) ∨ 102 < ub c) ∧ hv c = -1) := by
  have h : ∀ n : Fin 256, (48 ≤ (n.val : Int) ∧ (n.val : Int) ≤ 57 ∧ hv (UInt8.ofNat n.val) = (n.val : Int) - 48) ∨ (97 ≤ (n.val : Int) ∧ (n.val : Int) ≤ 102 ∧ hv (UInt8.ofNat n.val) = (n.val : Int) - 87) ∨ (((n.val : Int) < 48 ∨ (57 < (n.val : Int) ∧ (n.val : Int) < 97) ∨ 102 < (n.val : Int)) ∧ hv (UInt8.ofNat n.val) = -1) := by decide +kernel
  have := h ⟨c.toNat, c.toNat_lt⟩
  simpa [ub] using this
end Go.Proofs.YtcomibocajjhoaaGreatDoor
namespace Go.Proofs.YtcomibocajjhoaaGreatDoor
open Go.RowKit
set_option maxHeartbeats 400000 in
theorem text_cut (W : World) (s : ByteArray) (n : Nat) : Calls Tryz.prog 20 #[.string s, .int .i64 n] W fun e W' => e = .returned (.string ⟨(s.data.toList.take n).toArray⟩) ∧ W' = W := by
  have e : (⟨(s.data.toList.take n).toArray⟩ : ByteArray) = s.extract 0 (min (s.size : Int) (n : Int)).toNat := by
    refine ba_ext ?_
    rw [show (min (s.size : Int) (n : Int)).toNat = min s.size n by omega, ba_upto, ba_size]
    rw [← List.take_take]
    exact (List.take_of_length_le (by rw [List.length_take]; omega)).symm
  rw [e]
  clear e
  have l0 : (0 : Int) ≤ min (s.size : Int) (n : Int) := by omega
  have l1 : min (s.size : Int) (n : Int) ≤ (s.size : Int) := by omega
  go_enter Tryz.func20, Tryz.ntmps20
  go_wp2
  go_ret
  exact ⟨rfl, rfl⟩
end Go.Proofs.YtcomibocajjhoaaGreatDoor
