/- oid: the word of a kind. -/
import Derived.Test.YtpfoohfgochaiaaGreatDoorM
namespace Go.Proofs.YtpfoohfgochaiaaGreatDoor
open Go.RowKit
/-- The word of a kind, its bytes. -/
def wordB (k : Int) : ByteArray := if k = 1 then ⟨#[98, 108, 111, 98]⟩ else if k = 2 then ⟨#[116, 114, 101, 101]⟩ else if k = 3 then ⟨#[99, 111, 109, 109, 105, 116]⟩ else ⟨#[63]⟩
set_option maxHeartbeats 400000 in
theorem word_any (W : World) (k : Int) : Calls Tryz.prog 118 #[.int .i64 k] W fun e W' => e = .returned (.string (wordB k)) ∧ W' = W := by
  obtain ⟨x, hx⟩ : ∃ x, x = wordB k := ⟨_, rfl⟩
  rw [← hx]
  by_cases h1 : k = 1
  · subst h1
    go_enter Tryz.func118, Tryz.ntmps118
    go_wp2
    go_ret
    exact ⟨by rw [hx]; rfl, rfl⟩
  by_cases h2 : k = 2
  · subst h2
    go_enter Tryz.func118, Tryz.ntmps118
    go_wp2
    go_ret
    exact ⟨by rw [hx]; rfl, rfl⟩
  by_cases h3 : k = 3
  · subst h3
    go_enter Tryz.func118, Tryz.ntmps118
    go_wp2
    go_ret
    exact ⟨by rw [hx]; rfl, rfl⟩
  · have b1 : (k == 1) = false := by simp [h1]
    have b2 : (k == 2) = false := by simp [h2]
    have b3 : (k == 3) = false := by simp [h3]
    go_enter Tryz.func118, Tryz.ntmps118
    go_wp2
    go_ret
    exact ⟨by rw [hx]; simp [wordB, h1, h2, h3], rfl⟩
end Go.Proofs.YtpfoohfgochaiaaGreatDoor
