/- The hash of "abc". -/
import Derived.Test.YtpfoohfgochaiaaGreatDoorShaSpec2
import Derived.ProofKit
namespace Go.Proofs.YtpfoohfgochaiaaGreatDoor
open Go.RowKit
theorem abc_tail : [97, 98, 99] ++ tailB 3 3 = ([97, 98, 99, 128] ++ List.replicate 52 0 ++ [0, 0, 0, 0, 0, 0, 0, 24] : List UInt8) := by decide
theorem abc_absorb : (absorb st0 ([97, 98, 99] ++ tailB 3 3)).1 = mix st0 ([97, 98, 99] ++ tailB 3 3) := by
  rw [absorb_long st0 _ (by rw [abc_tail]; decide)]
  have e1 : (([97, 98, 99] : List UInt8) ++ tailB 3 3).take 64 = [97, 98, 99] ++ tailB 3 3 := by rw [abc_tail]; rfl
  have e2 : (([97, 98, 99] : List UInt8) ++ tailB 3 3).drop 64 = [] := by rw [abc_tail]; rfl
  rw [e1, e2, absorb_short _ _ (by decide)]
theorem sha_abc : sha256 [97, 98, 99] = outB (mix st0 ([97, 98, 99, 128] ++ List.replicate 52 0 ++ [0, 0, 0, 0, 0, 0, 0, 24])) := by
  have : sha256 [97, 98, 99] = outB (absorb (absorb st0 []).1 ([97, 98, 99] ++ tailB 3 3)).1 := by
    rw [absorb_short st0 [] (by decide)]
    rfl
  rw [this, absorb_short st0 [] (by decide), abc_absorb, abc_tail]
theorem abc0 : (sha256 [97, 98, 99])[0]? = some 0xba := by rw [sha_abc]; kernel_rfl
theorem abc1 : (sha256 [97, 98, 99])[1]? = some 0x78 := by rw [sha_abc]; kernel_rfl
theorem abc31 : (sha256 [97, 98, 99])[31]? = some 0xad := by rw [sha_abc]; kernel_rfl
end Go.Proofs.YtpfoohfgochaiaaGreatDoor
