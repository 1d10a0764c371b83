/- WhenSize: the walk of the law's body. -/
import Derived.Test.YticcianbphljpaaGreatDoorBe
import Derived.Test.YticcianbphljpaaGreatDoorRy
import Derived.Deep.DeepCutAuto
namespace Go.Proofs.YticcianbphljpaaGreatDoor
open Go.RowKit
set_option maxHeartbeats 400000 in
theorem text_ws (W : World) (s : ByteArray) (n : Nat) : Calls Tryz.prog 17 #[.string s, .int .i64 n] W fun e W' => e = .returned (.string ⟨(s.data.toList.take n).toArray⟩) ∧ W' = W := by
  have e : (⟨(s.data.toList.take n).toArray⟩ : ByteArray) = s.extract 0 (min (s.size : Int) (n : Int)).toNat := by
    refine ba_ext ?_
    rw [show (min (s.size : Int) (n : Int)).toNat = min s.size n by omega, ba_upto, ba_size]
    rw [← List.take_take]
    exact (List.take_of_length_le (by rw [List.length_take]; omega)).symm
  rw [e]
  clear e
  have l0 : (0 : Int) ≤ min (s.size : Int) (n : Int) := by omega
  have l1 : min (s.size : Int) (n : Int) ≤ (s.size : Int) := by omega
  go_enter Tryz.func17, Tryz.ntmps17
  go_wp2
  go_ret
  exact ⟨rfl, rfl⟩
/-- A number cut down by a mask. -/
theorem and_mask (n : Int) (m : Nat) (h : m < 9223372036854775808) : ∃ q : Nat, q ≤ m ∧ bits .and .i64 n (m : Int) = (q : Int) := by
  refine ⟨(BitVec.ofInt 64 n).toNat &&& m, Nat.and_le_right, ?_⟩
  show IntKind.i64.wrap (((BitVec.ofInt 64 n &&& BitVec.ofInt 64 (m : Int)).toNat : Nat) : Int) = _
  have e : (BitVec.ofInt 64 (m : Int)).toNat = m := by
    rw [BitVec.toNat_ofInt]
    omega
  rw [BitVec.toNat_and, e, IntKind.wrap_i64]
  have : (BitVec.ofInt 64 n).toNat &&& m ≤ m := Nat.and_le_right
  omega
def DecPost (k : Nat) (W : World) (e : Ending) (W' : World) : Prop := ∃ s : ByteArray, e = .returned (.string s) ∧ (s.size : Int) ≤ k + 1 ∧ Below W.heap.size W W'
set_option maxRecDepth 20000 in
set_option maxHeartbeats 1600000 in
theorem dec_small (n : Nat) (W : World) (h : n < 10) : Calls Tryz.prog 84 #[.int .i64 n] W (DecPost 0 W) := by
  have n1 : (n : Int) < 10 := by omega
  obtain ⟨x, hx⟩ : ∃ x : UInt8, x = UInt8.ofNat (48 + n) := ⟨_, rfl⟩
  have e1 : ((48 : Int) + (n : Int)) % 256 = ub x := by
    rw [hx]
    unfold ub
    rw [UInt8.toNat_ofNat']
    omega
  have e2 : IntKind.u8.wrap ((48 : Int) + (n : Int)) = ub x := by
    rw [← e1]
    simp [IntKind.wrap, IntKind.bits, IntKind.signed]
  have n0 : (0 : Int) ≤ 48 + (n : Int) := by omega
  clear h hx
  go_enter Tryz.func84, Tryz.ntmps84
  go_wp2_with (refine wpl_conv rfl 47 9 _ rfl (.string ⟨#[x]⟩) (run_str _ _ 1 1 [x] (src_box W (ub x) _ rfl)) ?_)
  go_ret
  exact ⟨_, rfl, by simp [ByteArray.size], (Below.refl _ _).alloc (Nat.le_refl _) _⟩
set_option maxRecDepth 20000 in
set_option maxHeartbeats 1600000 in
theorem dec_any (k : Nat) : ∀ (n : Nat) (W : World), n < 10 ^ (k + 1) → k ≤ 6 → Calls Tryz.prog 84 #[.int .i64 n] W (DecPost k W) := by
  induction k with
  | zero => intro n W h _; exact dec_small n W (by simpa using h)
  | succ k ih =>
    intro n W h hk
    by_cases hn : n < 10
    · refine (ih n W (Nat.lt_of_lt_of_le hn (by rw [Nat.pow_succ]; have := Nat.pow_pos (n := k) (show 0 < 10 by omega); omega)) (by omega)).mono ?_
      rintro e W' ⟨s, he, hs, hb⟩
      exact ⟨s, he, by omega, hb⟩
    · obtain ⟨a, ha⟩ : ∃ a, a = n / 10 := ⟨_, rfl⟩
      obtain ⟨b, hb⟩ : ∃ b, b = n % 10 := ⟨_, rfl⟩
      have cA := fun W => ih a W (by rw [ha, Nat.pow_succ] at *; omega) (by omega)
      have cB := fun W => ih b W (by rw [hb]; have := Nat.pow_pos (n := k) (show 0 < 10 by omega); rw [Nat.pow_succ]; omega) (by omega)
      have CA := Lib.hid cA
      have CB := Lib.hid cB
      have n1 : ¬ (n : Int) < 10 := by omega
      have x1 : (n : Int).tdiv 10 = (a : Int) := by rw [Int.tdiv_eq_ediv_of_nonneg (by omega)]; omega
      have x2 : (n : Int).tmod 10 = (b : Int) := by rw [Int.tmod_eq_emod_of_nonneg (by omega)]; omega
      have y1 : (n : Int) / 10 = (a : Int) := by omega
      have y2 : (n : Int) % 10 = (b : Int) := by omega
      have b10 : b < 10 := by omega
      have cB2 : ∀ W, Calls Tryz.prog 84 #[.int .i64 b] W (DecPost 0 W) := fun W => dec_small b W b10
      have k6 : (k : Int) ≤ 6 := by omega
      have hp : 10 ^ (k + 1 + 1) ≤ 10 ^ 7 := Nat.pow_le_pow_right (by omega) (by omega)
      have h7 : (10 : Nat) ^ 7 = 10000000 := by decide
      have a7 : (a : Int) < 10000000 := by omega
      have b7 : (b : Int) < 10 := by omega
      have wa : wrap64 (a : Int) = (a : Int) := by unfold wrap64; omega
      have wb : wrap64 (b : Int) = (b : Int) := by unfold wrap64; omega
      clear hp h7 a7 b7
      clear cA cB ha hb hn h
      go_enter Tryz.func84, Tryz.ntmps84
      go_wp2_with (first
        | (have _t := B1; clear _t; go_at_call 84; refine (cB2 _).mono ?_; rintro e w2 ⟨s2, rfl, z2, hb2⟩; have B2 := Lib.hid (B1.out.trans (hb2.mono B1.out.size)); clear hb2)
        | (go_at_call 84; refine (CA.out _).mono ?_; rintro e w1 ⟨s1, rfl, z1, hb1⟩; have B1 := Lib.hid hb1; clear hb1))
      have zz : ((s1 ++ s2).size : Int) ≤ ((k + 1 : Nat) : Int) + 1 := by
        rw [ByteArray.size_append]
        omega
      have ZZ := Lib.hid zz
      clear zz z1 z2 x1 x2 y1 y2 wa wb n1 b10 k6 ih cB2 CA CB
      go_ret
      exact ⟨s1 ++ s2, rfl, ZZ.out, B2.out⟩
end Go.Proofs.YticcianbphljpaaGreatDoor
