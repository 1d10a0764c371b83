/- The document's answer for a limit: Number. -/
import Derived.Test.YticcianbphljpaaGreatDoorSzp
import Derived.Test.YticcianbphljpaaGreatDoorP5x
import Derived.Deep.QuietTactic
import Derived.BigQuiet
namespace Go.Proofs.YticcianbphljpaaGreatDoor
open Go.RowKit
/-- Digits, at most six, no nought ahead but 0 itself. -/
def numB (l : List UInt8) : Bool := digs l 6 && !(decide (1 < l.length) && l.headD 0 == 48)
theorem numB_digs {l : List UInt8} (h : numB l = true) : digs l 6 = true := by
  unfold numB at h
  rw [Bool.and_eq_true] at h
  exact h.1
theorem numB_not {l : List UInt8} (h : digs l 6 = false) : numB l = false := by unfold numB; rw [h]; rfl
theorem run_byteZ (W : World) (t : ByteArray) (bs : List UInt8) (hb : bs = t.data.toList) (j : Nat) (z : Int) (hz : z = (j : Int)) (h : j < t.size) : (Instr.index 9 (.string t) (.int .i64 z)).run Tryz.prog W = .ok (.int .u8 (ub (gb bs j))) W := by
  subst hz
  exact run_byte W t bs hb j h
theorem gb_head (l : List UInt8) : gb l 0 = l.headD 0 := by cases l <;> rfl
end Go.Proofs.YticcianbphljpaaGreatDoor
