/- oid.Hex: bytes as digits. -/
import Derived.Test.YtpfoohfgochaiaaGreatDoorHs
import Derived.Deep.RegionLaw
namespace Go.Proofs.YtpfoohfgochaiaaGreatDoor
open Go.RowKit
/-- A digit. -/
def hexd (n : Nat) : UInt8 := [48, 49, 50, 51, 52, 53, 54, 55, 56, 57, 97, 98, 99, 100, 101, 102].getD n 0
def hex2 (b : UInt8) : List UInt8 := [hexd (b.toNat / 16), hexd (b.toNat % 16)]
def hexL (bs : List UInt8) : List UInt8 := bs.flatMap hex2
theorem hexL_snoc (bs : List UInt8) (b : UInt8) : hexL (bs ++ [b]) = hexL bs ++ hex2 b := by simp [hexL]
@[simp] theorem hexL_length (bs : List UInt8) : (hexL bs).length = 2 * bs.length := by
  induction bs with
  | nil => rfl
  | cons b r ih => simp [hexL, hex2] at ih ⊢; omega
def digitsB : ByteArray := ⟨#[48, 49, 50, 51, 52, 53, 54, 55, 56, 57, 97, 98, 99, 100, 101, 102]⟩
theorem digits_at (n : Nat) (h : n < 16) : digitsB[n]? = some (hexd n) := by
  have : ∀ m : Fin 16, digitsB[m.val]? = some (hexd m.val) := by decide
  exact this ⟨n, h⟩
theorem run_digit (W : World) (n : Nat) (h : n < 16) : (Instr.index 9 (.string digitsB) (.int .u8 n)).run Tryz.prog W = .ok (.int .u8 (ub (hexd n))) W := by
  have hu : Tryz.prog.underlying 9 = some .string := by kernel_rfl
  unfold Instr.index
  simp [go_sem, digits_at n h]
  rfl
theorem run_at (W : World) (bs : List UInt8) (hl : bs.length = 32) (k : Nat) (h : k < 32) : (Instr.index 28 (.agg (Bs bs).toArray) (.int .i64 k)).run Tryz.prog W = .ok (.int .u8 (ub (gb bs k))) W := by
  have hu := Tryz.underlying28
  have hg : (Bs bs)[k]? = some (.int .u8 (ub (gb bs k))) := by
    simp [Bs, gb, List.getD_eq_getElem?_getD, hl, h]
  unfold Instr.index
  simp [go_sem, h]
  rw [hg]
  rfl
theorem and15 (b : UInt8) : bits .and .u8 (ub b) 15 = ((b.toNat % 16 : Nat) : Int) := by
  have h : ∀ n : Fin 256, bits .and .u8 ((n.val : Nat) : Int) 15 = ((n.val % 16 : Nat) : Int) := by decide +kernel
  exact h ⟨b.toNat, b.toNat_lt⟩
end Go.Proofs.YtpfoohfgochaiaaGreatDoor
