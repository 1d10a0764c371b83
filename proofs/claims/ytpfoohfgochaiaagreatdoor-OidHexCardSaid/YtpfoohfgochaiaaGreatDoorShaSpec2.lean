/- SHA-256: the end of a text, the digest. Plain Lean. -/
import Derived.Test.YtpfoohfgochaiaaGreatDoorU
namespace Go.Proofs.YtpfoohfgochaiaaGreatDoor
/-- How many noughts stand behind the 0x80, l bytes with it. -/
def padz (l : Nat) : Nat := (120 - l % 64) % 64
theorem padz_mod (l : Nat) : (l + padz l) % 64 = 56 := by unfold padz; omega
theorem padz_more (l k : Nat) (h : k < padz l) : (l + k) % 64 ≠ 56 := by unfold padz at h; omega
theorem padz_lt (l : Nat) : padz l < 64 := by unfold padz; omega
theorem padz_of_mod {l k : Nat} (hk : k ≤ padz l) (h : (l + k) % 64 = 56) : k = padz l := by
  unfold padz at *; omega
/-- A length's byte, so many bits from the right. -/
def lenB (n sh : Nat) : UInt8 := UInt8.ofNat (8 * n / 2 ^ sh)
def len8 (n : Nat) : List UInt8 := [lenB n 56, lenB n 48, lenB n 40, lenB n 32, lenB n 24, lenB n 16, lenB n 8, lenB n 0]
@[simp] theorem len8_length (n : Nat) : (len8 n).length = 8 := rfl
def word4 (x : BitVec 32) : List UInt8 := [loB (x >>> 24), loB (x >>> 16), loB (x >>> 8), loB x]
def outB (s : St) : List UInt8 := word4 s.a ++ word4 s.b ++ word4 s.c ++ word4 s.d ++ word4 s.e ++ word4 s.f ++ word4 s.g ++ word4 s.h
@[simp] theorem outB_length (s : St) : (outB s).length = 32 := rfl
/-- All that stands behind what is left. -/
def tailB (l n : Nat) : List UInt8 := 128 :: List.replicate (padz (l + 1)) 0 ++ len8 n
def digest (s : St) (rs : List UInt8) (n : Nat) : List UInt8 := outB (absorb s (rs ++ tailB rs.length n)).1
@[simp] theorem digest_length (s : St) (rs : List UInt8) (n : Nat) : (digest s rs n).length = 32 := rfl
/-- The hash of a text. -/
def sha256 (bs : List UInt8) : List UInt8 := digest st0 bs bs.length
theorem absorb_mod (s : St) (rs : List UInt8) : (absorb s rs).2.length = rs.length % 64 := by
  by_cases h : rs.length < 64
  · rw [absorb_short s rs h]; simp only; omega
  · rw [absorb_long s rs (by omega), absorb_mod (mix s (rs.take 64)) (rs.drop 64)]
    simp; omega
termination_by rs.length
decreasing_by simp; omega
theorem padz_mod64 {l k : Nat} (h : l % 64 = k % 64) : padz l = padz k := by unfold padz; rw [h]
/-- Of what was absorbed and what is left the digest is the text's hash. -/
theorem digest_absorb (bs : List UInt8) : digest (absorb st0 bs).1 (absorb st0 bs).2 bs.length = sha256 bs := by
  have hm := absorb_mod st0 bs
  have ht : tailB (absorb st0 bs).2.length bs.length = tailB bs.length bs.length := by
    unfold tailB
    rw [padz_mod64 (l := (absorb st0 bs).2.length + 1) (k := bs.length + 1) (by omega)]
  unfold sha256 digest
  rw [ht, ← absorb_append]
end Go.Proofs.YtpfoohfgochaiaaGreatDoor
