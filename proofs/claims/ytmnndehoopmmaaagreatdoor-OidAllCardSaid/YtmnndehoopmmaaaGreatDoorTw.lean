/- colporteurlaw1.Text: what it cuts. -/
import Derived.Test.YtmnndehoopmmaaaGreatDoorLe
namespace Go.Proofs.YtmnndehoopmmaaaGreatDoor
open Go.RowKit
set_option maxHeartbeats 400000 in
theorem text_cut (W : World) (s : ByteArray) (n : Nat) : Calls Tryz.prog 19 #[.string s, .int .i64 n] W fun e W' => e = .returned (.string ⟨(s.data.toList.take n).toArray⟩) ∧ W' = W := by
  have e : (⟨(s.data.toList.take n).toArray⟩ : ByteArray) = s.extract 0 (min (s.size : Int) (n : Int)).toNat := by
    refine ba_ext ?_
    rw [show (min (s.size : Int) (n : Int)).toNat = min s.size n by omega, ba_upto, ba_size]
    rw [← List.take_take]
    exact (List.take_of_length_le (by rw [List.length_take]; omega)).symm
  rw [e]
  clear e
  have l0 : (0 : Int) ≤ min (s.size : Int) (n : Int) := by omega
  have l1 : min (s.size : Int) (n : Int) ≤ (s.size : Int) := by omega
  go_enter Tryz.func19, Tryz.ntmps19
  go_wp2
  go_ret
  exact ⟨rfl, rfl⟩
end Go.Proofs.YtmnndehoopmmaaaGreatDoor
