/- The document's answer for a limit: Size. -/
import Derived.Test.YticcianbphljpaaGreatDoorRz
namespace Go.Proofs.YticcianbphljpaaGreatDoor
open Go.RowKit
theorem szSuf_tok (l : List UInt8) : tOk (szSuf l).2 := by
  unfold szSuf tOk
  split
  · exact .inl rfl
  · split
    · exact .inr (.inl rfl)
    · exact .inr (.inr rfl)
theorem isdig_ub (x : UInt8) : isdig x = true ↔ 48 ≤ ub x ∧ ub x ≤ 57 := by
  unfold isdig ub
  simp only [Bool.and_eq_true, decide_eq_true_eq]
  omega
theorem szOk_num (w r : List UInt8) (p : Bool) : szOk w r p = (numB w && (!p || digs r 3)) := rfl
theorem sizeR_at {l t : List UInt8} {k : Nat} (ht : (szSuf l).1 = t) (h1 : ∀ j, j < k → gb t j ≠ 46) (h2 : k < t.length) (h3 : gb t k = 46) : sizeR l = szR (t.take k) (t.drop (k + 1)) true (szSuf l).2 := by
  unfold sizeR
  rw [ht, cut_at h1 h2 h3]
theorem sizeR_no {l t : List UInt8} (ht : (szSuf l).1 = t) (h1 : ∀ j, j < t.length → gb t j ≠ 46) : sizeR l = szR t [] false (szSuf l).2 := by
  unfold sizeR
  rw [ht, cut_no h1]
theorem szR_no {w r : List UInt8} {p : Bool} {t : Nat} (h : szOk w r p = false) : szR w r p t = (0, false) := by
  unfold szR
  rw [if_neg (by rw [h]; simp)]
theorem szR_yes {w r : List UInt8} {p : Bool} {t : Nat} (h : szOk w r p = true) : szR w r p t = (fmul (fdiv (floatOfInt .f64 (decv (w ++ r) : Int)) (f10 r.length)) t, true) := by
  unfold szR
  rw [if_pos h]
/-- The division and the product, as the program makes them. -/
theorem run_div (q j : Nat) (hj : j ≤ 3) (W : World) : (binOp .quo 32 (.float .f64 (floatOfInt .f64 (q : Int))) (.float .f64 (f10 j))).run Tryz.prog W = .ok (.float .f64 (fdiv (floatOfInt .f64 (q : Int)) (f10 j))) W := by
  obtain ⟨n1, m1, e1, hr1, hm1⟩ := f10_read j hj
  obtain ⟨y, hy, hyn⟩ := div_num (ofInt_num (q : Int)) n1 m1 e1 hr1 hm1
  exact run_float_arith (P := Tryz.prog) W .quo 32 .f64 (floatOfInt .f64 (q : Int)) (f10 j) _ (fdiv_bits hy)
theorem run_times (q j tb : Nat) (hj : j ≤ 3) (ht : tOk tb) (W : World) : (binOp .mul 32 (.float .f64 (fdiv (floatOfInt .f64 (q : Int)) (f10 j))) (.float .f64 tb)).run Tryz.prog W = .ok (.float .f64 (fmul (fdiv (floatOfInt .f64 (q : Int)) (f10 j)) tb)) W := by
  obtain ⟨n1, m1, e1, hr1, hm1⟩ := f10_read j hj
  obtain ⟨y, hy, hyn⟩ := div_num (ofInt_num (q : Int)) n1 m1 e1 hr1 hm1
  have hyf : fdiv (floatOfInt .f64 (q : Int)) (f10 j) = y := by unfold fdiv; rw [hy]; rfl
  obtain ⟨n2, m2, e2, hr2, hm2⟩ := tOk_read ht
  obtain ⟨x, hx, hxn⟩ := mul_num hyn n2 m2 e2 hr2 hm2
  rw [← hyf] at hx
  exact run_float_arith (P := Tryz.prog) W .mul 32 .f64 _ tb _ (fmul_bits hx)
end Go.Proofs.YticcianbphljpaaGreatDoor
