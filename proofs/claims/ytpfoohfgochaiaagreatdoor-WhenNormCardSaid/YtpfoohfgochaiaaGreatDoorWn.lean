/- WhenNorm: the walk of the law's body. -/
import Derived.Test.YtpfoohfgochaiaaGreatDoorFc
import Derived.Test.YtpfoohfgochaiaaGreatDoorBe
namespace Go.Proofs.YtpfoohfgochaiaaGreatDoor
open Go.RowKit
theorem whenNorm_any (W : World) (b : Nat) (hb : b < 18446744073709551616) (hG : Gl W) : Calls Tryz.prog 12 #[.float .f64 b] W fun e W' => e = .returned (.bool true) ∧ Below W.heap.size W W' := by
  have hbe := begun_any W hG
  have HB := Lib.hid hbe
  clear hbe hG
  have n0 : normV 0 = .tuple #[.float .f64 0, .bool true] := by kernel_rfl
  have c0 : ∀ w, Calls Tryz.prog 51 #[.float .f64 0] w fun e w' => e = .returned (.tuple #[.float .f64 0, .bool true]) ∧ w = w' := fun w => (norm_any w 0).mono (by rintro e w' ⟨rfl, rfl⟩; exact ⟨by rw [n0], rfl⟩)
  have f1 : (FloatKind.f64.format.order 0 0 == some Ordering.eq) = true := by kernel_rfl
  rcases Nat.lt_or_ge finfR (frung b) with hn | hn
  · have e0 : normV b = .tuple #[.float .f64 0, .bool false] := normV_not b (by unfold finfR at hn; omega) (fmay_nan' b hn)
    have cb : ∀ w, Calls Tryz.prog 51 #[.float .f64 b] w fun e w' => e = .returned (.tuple #[.float .f64 0, .bool false]) ∧ w = w' := fun w => (norm_any w b).mono (by rintro e w' ⟨rfl, rfl⟩; exact ⟨by rw [e0], rfl⟩)
    have f2 : (FloatKind.f64.format.order b b != some Ordering.eq) = true := fnan_true b hn
    clear hn hb e0 n0
    go_enter Tryz.func12, Tryz.ntmps12
    go_wp2_with (first
      | (go_at_call 23; refine HB.out.mono ?_; rintro e w1 ⟨rfl, hb⟩; have L1 := Lib.hid hb; clear hb)
      | (go_at_call 51; (with_reducible refine (cb _).mono ?_); rintro e w' ⟨rfl, rfl⟩)
      | (go_at_call 51; (with_reducible refine (c0 _).mono ?_); rintro e w' ⟨rfl, rfl⟩))
    go_ret
    exact ⟨rfl, L1.out⟩
  rcases Nat.eq_or_lt_of_le hn with hi | hi
  · have e0 : normV b = .tuple #[.float .f64 0, .bool false] := normV_not b (by unfold finfR at hi; omega) (fmay_inf b hb hi)
    have cb : ∀ w, Calls Tryz.prog 51 #[.float .f64 b] w fun e w' => e = .returned (.tuple #[.float .f64 0, .bool false]) ∧ w = w' := fun w => (norm_any w b).mono (by rintro e w' ⟨rfl, rfl⟩; exact ⟨by rw [e0], rfl⟩)
    have f2 : (FloatKind.f64.format.order b b != some Ordering.eq) = false := fnan_false b hn
    have f3 : finf b = true := by rw [finf_eq b hb hn, decide_eq_true hi]
    have ci : ∀ w, Calls Tryz.prog 52 #[.float .f64 b, .int .i64 0] w fun e w' => e = .returned (.bool true) ∧ w = w' := fun w => (isinf_any w b).mono (by rintro e w' ⟨rfl, rfl⟩; exact ⟨by rw [f3], rfl⟩)
    clear hn hb e0 n0 hi f3
    go_enter Tryz.func12, Tryz.ntmps12
    go_wp2_with (first
      | (go_at_call 23; refine HB.out.mono ?_; rintro e w1 ⟨rfl, hb⟩; have L1 := Lib.hid hb; clear hb)
      | (go_at_call 51; (with_reducible refine (cb _).mono ?_); rintro e w' ⟨rfl, rfl⟩)
      | (go_at_call 51; (with_reducible refine (c0 _).mono ?_); rintro e w' ⟨rfl, rfl⟩)
      | (go_at_call 52; refine (ci _).mono ?_; rintro e w' ⟨rfl, rfl⟩))
    go_ret
    exact ⟨rfl, L1.out⟩
  by_cases h0 : frung b = 0
  · have b1 : ∀ w, Calls Tryz.prog 53 #[.float .f64 0] w fun e w' => e = .returned (.int .u64 0) ∧ w = w' := fun w => (bits_any w 0).mono (by rintro e w' ⟨rfl, rfl⟩; exact ⟨by rw [show fbits 0 = 0 from by kernel_rfl]; rfl, rfl⟩)
    have b2 : ∀ w, Calls Tryz.prog 53 #[.float .f64 9223372036854775808] w fun e w' => e = .returned (.int .u64 9223372036854775808) ∧ w = w' := fun w => (bits_any w 9223372036854775808).mono (by rintro e w' ⟨rfl, rfl⟩; exact ⟨by rw [show fbits 9223372036854775808 = 9223372036854775808 from by kernel_rfl]; rfl, rfl⟩)
    have m0 : ∀ w, Calls Tryz.prog 54 #[.float .f64 0] w fun e w' => e = .returned (.bool true) ∧ w = w' := fun w => (may_any w 0).mono (by rintro e w' ⟨rfl, rfl⟩; exact ⟨by rw [show fmay 0 = true from by kernel_rfl], rfl⟩)
    have f2 : (FloatKind.f64.format.order 0 9223372036854775808 == some Ordering.eq) = true := by kernel_rfl
    have f3 : (FloatKind.f64.format.order 9223372036854775808 0 == some Ordering.eq) = true := by kernel_rfl
    have f4 : ∀ w, (binOp .quo 48 (.float .f64 4607182418800017408) (.float .f64 9223372036854775808)).run Tryz.prog w = .ok (.float .f64 18442240474082181120) w := fun w => run_float_arith w .quo 48 .f64 _ _ _ (by kernel_rfl)
    have f5 : (FloatKind.f64.format.order 18442240474082181120 0 == some Ordering.lt) = true := by kernel_rfl
    have cz : ∀ w, Calls Tryz.prog 51 #[.float .f64 9223372036854775808] w fun e w' => e = .returned (.tuple #[.float .f64 0, .bool true]) ∧ w = w' := fun w => (norm_any w _).mono (by rintro e w' ⟨rfl, rfl⟩; exact ⟨by rw [show normV 9223372036854775808 = .tuple #[.float .f64 0, .bool true] from by kernel_rfl], rfl⟩)
    rcases fzero b hb h0 with rfl | rfl
    all_goals
      clear hn hb n0 hi h0
      go_enter Tryz.func12, Tryz.ntmps12
      go_wp2_with (first
        | (go_at_call 23; refine HB.out.mono ?_; rintro e w1 ⟨rfl, hb⟩; have L1 := Lib.hid hb; clear hb)
        | (go_at_call 51; (with_reducible refine (c0 _).mono ?_); rintro e w' ⟨rfl, rfl⟩)
        | (go_at_call 51; (with_reducible refine (cz _).mono ?_); rintro e w' ⟨rfl, rfl⟩)
        | (go_at_call 54; refine (m0 _).mono ?_; rintro e w' ⟨rfl, rfl⟩)
        | (go_at_call 53; (with_reducible refine (b1 _).mono ?_); rintro e w' ⟨rfl, rfl⟩)
        | (go_at_call 53; (with_reducible refine (b2 _).mono ?_); rintro e w' ⟨rfl, rfl⟩))
      go_ret
      exact ⟨rfl, L1.out⟩
  · have e0 : normV b = .tuple #[.float .f64 b, .bool true] := normV_fin b h0 (fmay_fin b hb hi h0)
    have e1 := fmay_fin b hb hi h0
    have cb : ∀ w, Calls Tryz.prog 51 #[.float .f64 b] w fun e w' => e = .returned (.tuple #[.float .f64 b, .bool true]) ∧ w = w' := fun w => (norm_any w b).mono (by rintro e w' ⟨rfl, rfl⟩; exact ⟨by rw [e0], rfl⟩)
    have cm : ∀ w, Calls Tryz.prog 54 #[.float .f64 b] w fun e w' => e = .returned (.bool true) ∧ w = w' := fun w => (may_any w b).mono (by rintro e w' ⟨rfl, rfl⟩; exact ⟨by rw [e1], rfl⟩)
    have f2 : (FloatKind.f64.format.order b b == some Ordering.eq) = true := by rw [f64_double, order_self b hn]; rfl
    obtain ⟨z, hz⟩ : ∃ z : Int, z = (fbits b : Nat) := ⟨_, rfl⟩
    have cbits : ∀ w, Calls Tryz.prog 53 #[.float .f64 b] w fun e w' => e = .returned (.int .u64 z) ∧ w = w' := fun w => (bits_any w b).mono (by rintro e w' ⟨rfl, rfl⟩; exact ⟨by rw [hz], rfl⟩)
    clear hn hb n0 hi h0 e0 e1 hz
    go_enter Tryz.func12, Tryz.ntmps12
    go_wp2_with (first
      | (go_at_call 23; refine HB.out.mono ?_; rintro e w1 ⟨rfl, hb⟩; have L1 := Lib.hid hb; clear hb)
      | (go_at_call 51; (with_reducible refine (cb _).mono ?_); rintro e w' ⟨rfl, rfl⟩)
      | (go_at_call 54; refine (cm _).mono ?_; rintro e w' ⟨rfl, rfl⟩)
      | (go_at_call 53; (with_reducible refine (cbits _).mono ?_); rintro e w' ⟨rfl, rfl⟩))
    go_ret
    exact ⟨rfl, L1.out⟩
end Go.Proofs.YtpfoohfgochaiaaGreatDoor
