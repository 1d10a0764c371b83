/- An entry's name is what strings.Cut tells ahead of the first nought. -/
import Derived.Test.YtcomibocajjhoaaGreatDoorP5x
import Derived.Lib.IndexMore
import Derived.Lib.IndexBytes
namespace Go.Proofs.YtcomibocajjhoaaGreatDoor
theorem nmLen_le (r : List UInt8) : nmLen r ≤ r.length := by
  unfold nmLen
  exact (List.takeWhile_prefix _).length_le
theorem indexByte_nm (r : List UInt8) : Lib.indexByte r 0 = if nmLen r < r.length then (nmLen r : Int) else -1 := by
  induction r with
  | nil => rfl
  | cons c r ih =>
    unfold Lib.indexByte
    by_cases h : c = 0
    · subst h
      have e : nmLen (0 :: r) = 0 := by simp [nmLen]
      rw [e]
      simp
    · have e : nmLen (c :: r) = nmLen r + 1 := by simp [nmLen, h]
      have hb : (c == 0) = false := by simpa using h
      rw [hb, e, ih]
      simp only [Bool.false_eq_true, if_false, List.length_cons]
      by_cases h2 : nmLen r < r.length
      · have h3 : nmLen r + 1 < r.length + 1 := by omega
        have h4 : ((nmLen r : Int) == -1) = false := by simp
        rw [if_pos h2, if_pos h3, h4]
        simp
      · have h3 : ¬ nmLen r + 1 < r.length + 1 := by omega
        rw [if_neg h2, if_neg h3]
        rfl
theorem cut_nm (r : List UInt8) : Lib.cut r [0] = if nmLen r < r.length then (r.take (nmLen r), r.drop (nmLen r + 1), true) else (r, [], false) := by
  unfold Lib.cut
  rw [Lib.index_one, indexByte_nm]
  by_cases h : nmLen r < r.length
  · rw [if_pos h, if_pos h, if_pos (by omega)]
    simp
  · rw [if_neg h, if_neg h]
    rfl
/-- The program's test for an entry is the document's. -/
theorem cut_oneT (r : List UInt8) : (nmLen r < r.length ∧ 32 ≤ (r.drop (nmLen r + 1)).length) ↔ nmLen r + 33 ≤ r.length := by
  rw [List.length_drop]
  omega
end Go.Proofs.YtcomibocajjhoaaGreatDoor
