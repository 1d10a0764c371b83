/- CommitWhen: commits of unlike times are unlike; what is no time may not be: the law's walk. -/
import Derived.Test.YtcomibocajjhoaaGreatDoorBn
import Derived.Test.YtcomibocajjhoaaGreatDoorP18x
import Derived.Test.YtcomibocajjhoaaGreatDoorP4x
namespace Go.Proofs.YtcomibocajjhoaaGreatDoor
open Go.RowKit Ieee
theorem time_inj (a b : Nat) (ha : a < 18446744073709551616) (hb : b < 18446744073709551616) (ma : fmay a = true) (mb : fmay b = true) (h : fkey a = fkey b) : a = b := by
  have z0 : fmay 9223372036854775808 = false := by kernel_rfl
  by_cases z : frung a = 0
  · have zb : frung b = 0 := (fkey_zero b).1 (by rw [← h]; exact (fkey_zero a).2 z)
    rcases fzero a ha z with rfl | rfl
    · rcases fzero b hb zb with rfl | rfl
      · rfl
      · rw [z0] at mb; cases mb
    · rw [z0] at ma; cases ma
  · unfold fkey at h
    have h1 : frung a = a % 9223372036854775808 := rfl
    have h2 : frung b = b % 9223372036854775808 := rfl
    cases na : fneg a <;> cases nb : fneg b <;> rw [na, nb] at h <;> unfold fneg at na nb <;> simp at h na nb <;> omega
theorem time_eq (a b : Nat) (ha : a < 18446744073709551616) (hb : b < 18446744073709551616) (ma : fmay a = true) (mb : fmay b = true) : (FloatKind.f64.format.order a b == some Ordering.eq) = decide (a = b) := by
  have na : frung a ≤ finfR := Nat.le_of_not_lt fun h => by rw [fmay_nan' a h] at ma; cases ma
  have nb : frung b ≤ finfR := Nat.le_of_not_lt fun h => by rw [fmay_nan' b h] at mb; cases mb
  rw [f64_double, order_key a b na nb]
  by_cases h : a = b
  · subst h
    rw [decide_eq_true rfl, Int.compare_eq_eq.mpr rfl]
    rfl
  · rw [decide_eq_false h]
    have : compare (fkey a) (fkey b) ≠ Ordering.eq := fun e => h (time_inj a b ha hb ma mb (Int.compare_eq_eq.mp e))
    simpa using this
/-- A commit of a time alone. -/
def comW (a : Nat) : Com := ⟨default, [], a, []⟩
theorem comW_may (a : Nat) : mayC (comW a) = fmay a := by
  rw [mayC_unlike (comW a) (fun i hi => absurd hi (by simp [comW]))]
  simp [comW]
theorem comW_eq (a b : Nat) (ha : a < 18446744073709551616) (hb : b < 18446744073709551616) (ma : fmay a = true) (mb : fmay b = true) : commitB (comW a) = commitB (comW b) ↔ a = b := by
  constructor
  · intro h
    have h1 := getC_put (comW a) ha (by rw [comW_may]; exact ma)
    have h2 := getC_put (comW b) hb (by rw [comW_may]; exact mb)
    rw [h, h2] at h1
    have h3 := congrArg Com.wh (Option.some.inj h1)
    exact h3.symm
  · rintro rfl; rfl
theorem built_whenC (b : Nat) : Tryz.prog.built 33 [(2, .float .f64 b)] = some (comL (comW b) none 0 0).toArray := by
  have h0 := encI_len default
  have h1 : (encI default).take 33 = encI default := List.take_of_length_le (by rw [encI_len]; omega)
  have h2 : (encI default).drop 34 = [] := List.drop_of_length_le (by rw [encI_len]; omega)
  rw [builtC, fill_one _ _ 2 _ _ 33 [.float .f64 b] rfl (by simp) (by simp [zeroC, comL_len]), Instr.fill]
  simp [zeroC, comL, noCom, comW, h0, h1, h2, List.take_append, List.drop_append]
theorem comW_at (w : World) (a : Nat) (ha : a < 18446744073709551616) : ComAt w (comW a) none 0 0 := ⟨⟨rfl, fun h => absurd h (Nat.lt_irrefl 0), fun u hu => by cases hu⟩, Nat.le_refl _, Nat.zero_le _, ha, Nat.zero_le _⟩
set_option maxRecDepth 20000 in
set_option maxHeartbeats 6400000 in
theorem commitWhenLaw_any (W : World) (a b : Nat) (ha : a < 18446744073709551616) (hb : b < 18446744073709551616) (hG : Gl W) (hE : Ge W) :
    Calls Tryz.prog 4 #[.float .f64 a, .float .f64 b] W fun e W' => e = .returned (.bool true) ∧ Below W.heap.size W W' := by
  have cB := begun6_any W hG hE
  have CB := Lib.hid cB
  have cA : ∀ w, Gl w → Calls Tryz.prog 13 #[.agg (comL (comW a) none 0 0).toArray] w fun e w' => e = .returned (putCV (comW a)) ∧ Below w.heap.size w w' := fun w hw => commitPut_any w (comW a) none 0 0 (comW_at w a ha) (by omega) hw
  have cC : ∀ w, Gl w → Calls Tryz.prog 13 #[.agg (comL (comW b) none 0 0).toArray] w fun e w' => e = .returned (putCV (comW b)) ∧ Below w.heap.size w w' := fun w hw => commitPut_any w (comW b) none 0 0 (comW_at w b hb) (by omega) hw
  unfold putCV at cA cC
  rw [comW_may] at cA cC
  have rA := fun w => rmay_any w a ha
  have rB := fun w => rmay_any w b hb
  have bA := Lib.hid (built_whenC a)
  have bB := Lib.hid (built_whenC b)
  have HG := Lib.hid hG
  obtain ⟨sx, hsx⟩ : ∃ sx : ByteArray, sx = ⟨(bif fmay a then commitB (comW a) else []).toArray⟩ := ⟨_, rfl⟩
  obtain ⟨sy, hsy⟩ : ∃ sy : ByteArray, sy = ⟨(bif fmay b then commitB (comW b) else []).toArray⟩ := ⟨_, rfl⟩
  rw [← hsx] at cA
  rw [← hsy] at cC
  have both : fmay a = true → fmay b = true → ∃ v, (sx.toList == sy.toList) = v ∧ (FloatKind.f64.format.order a b == some Ordering.eq) = v := fun ma mb => by
    refine ⟨decide (a = b), ?_, time_eq a b ha hb ma mb⟩
    rw [dec_note _ _ sx sy hsx hsy, ma, mb]
    exact decide_eq_decide.2 (comW_eq a b ha hb ma mb)
  obtain ⟨ma, hma⟩ : ∃ ma, ma = fmay a := ⟨_, rfl⟩
  obtain ⟨mb, hmb⟩ : ∃ mb, mb = fmay b := ⟨_, rfl⟩
  rw [← hma, ← hmb] at both
  rw [← hma] at cA
  rw [← hmb] at cC
  simp only [← hma] at rA
  simp only [← hmb] at rB
  obtain ⟨ca, hca⟩ : ∃ ca, ca = comL (comW a) none 0 0 := ⟨_, rfl⟩
  obtain ⟨cb, hcb⟩ : ∃ cb, cb = comL (comW b) none 0 0 := ⟨_, rfl⟩
  rw [← hca] at cA bA
  rw [← hcb] at cC bB
  have CA := Lib.hid cA
  have CC := Lib.hid cC
  have RA := Lib.hid rA
  have RB := Lib.hid rB
  have BO := Lib.hid both
  clear cB cA cC rA rB hG hE hsx hsy hma hmb hca hcb both ha hb
  cases ma
  · cases mb
    all_goals
      go_enter Tryz.func4, Tryz.ntmps4
      go_wp2_with (first | (go_at_call 11; refine CB.out.mono ?_; rintro e w1 ⟨rfl, hb⟩; have L1 := Lib.hid hb; clear hb) | (refine wpl_buildP rfl 33 [(2, .tmp 14)] rfl ca bA.out ?_) | (refine wpl_buildP rfl 33 [(2, .tmp 20)] rfl cb bB.out ?_))
      go_at_call 13
      with_reducible refine (CA.out _ (HG.out.below L1.out)).mono ?_
      rintro e w2 ⟨rfl, hb⟩
      have L2 := Lib.hid (L1.out.trans (hb.mono L1.out.size))
      clear hb
      go_wp2_with (refine wpl_buildP rfl 33 [(2, .tmp 20)] rfl cb bB.out ?_)
      go_at_call 13
      with_reducible refine (CC.out _ (HG.out.below L2.out)).mono ?_
      rintro e w3 ⟨rfl, hb⟩
      have L3 := Lib.hid (L2.out.trans (hb.mono L2.out.size))
      clear hb
      go_wp2_with fail
      go_at_call 14
      with_reducible refine (RA.out _).mono ?_
      rintro e w4 ⟨rfl, q4, hw⟩
      have L4 := Lib.hid (show Below W.heap.size W w4 from (by rw [hw]; exact below_drewN' L3.out q4))
      clear hw
      go_wp2_with fail
      go_at_call 14
      with_reducible refine (RB.out _).mono ?_
      rintro e w5 ⟨rfl, q5, hw⟩
      have L5 := Lib.hid (show Below W.heap.size W w5 from (by rw [hw]; exact below_drewN' L4.out q5))
      clear hw
      go_wp2_with fail
      go_ret
      exact ⟨rfl, L5.out⟩
  · cases mb
    · go_enter Tryz.func4, Tryz.ntmps4
      go_wp2_with (first | (go_at_call 11; refine CB.out.mono ?_; rintro e w1 ⟨rfl, hb⟩; have L1 := Lib.hid hb; clear hb) | (refine wpl_buildP rfl 33 [(2, .tmp 14)] rfl ca bA.out ?_) | (refine wpl_buildP rfl 33 [(2, .tmp 20)] rfl cb bB.out ?_))
      go_at_call 13
      with_reducible refine (CA.out _ (HG.out.below L1.out)).mono ?_
      rintro e w2 ⟨rfl, hb⟩
      have L2 := Lib.hid (L1.out.trans (hb.mono L1.out.size))
      clear hb
      go_wp2_with (refine wpl_buildP rfl 33 [(2, .tmp 20)] rfl cb bB.out ?_)
      go_at_call 13
      with_reducible refine (CC.out _ (HG.out.below L2.out)).mono ?_
      rintro e w3 ⟨rfl, hb⟩
      have L3 := Lib.hid (L2.out.trans (hb.mono L2.out.size))
      clear hb
      go_wp2_with fail
      go_at_call 14
      with_reducible refine (RA.out _).mono ?_
      rintro e w4 ⟨rfl, q4, hw⟩
      have L4 := Lib.hid (show Below W.heap.size W w4 from (by rw [hw]; exact below_drewN' L3.out q4))
      clear hw
      go_wp2_with fail
      go_at_call 14
      with_reducible refine (RB.out _).mono ?_
      rintro e w5 ⟨rfl, q5, hw⟩
      have L5 := Lib.hid (show Below W.heap.size W w5 from (by rw [hw]; exact below_drewN' L4.out q5))
      clear hw
      go_wp2_with fail
      go_ret
      exact ⟨rfl, L5.out⟩
    · obtain ⟨v, hv1, hv2⟩ := BO.out rfl rfl
      go_enter Tryz.func4, Tryz.ntmps4
      go_wp2_with (first | (go_at_call 11; refine CB.out.mono ?_; rintro e w1 ⟨rfl, hb⟩; have L1 := Lib.hid hb; clear hb) | (refine wpl_buildP rfl 33 [(2, .tmp 14)] rfl ca bA.out ?_) | (refine wpl_buildP rfl 33 [(2, .tmp 20)] rfl cb bB.out ?_))
      go_at_call 13
      with_reducible refine (CA.out _ (HG.out.below L1.out)).mono ?_
      rintro e w2 ⟨rfl, hb⟩
      have L2 := Lib.hid (L1.out.trans (hb.mono L1.out.size))
      clear hb
      go_wp2_with (refine wpl_buildP rfl 33 [(2, .tmp 20)] rfl cb bB.out ?_)
      go_at_call 13
      with_reducible refine (CC.out _ (HG.out.below L2.out)).mono ?_
      rintro e w3 ⟨rfl, hb⟩
      have L3 := Lib.hid (L2.out.trans (hb.mono L2.out.size))
      clear hb
      go_wp2_with fail
      go_at_call 14
      with_reducible refine (RA.out _).mono ?_
      rintro e w4 ⟨rfl, q4, hw⟩
      have L4 := Lib.hid (show Below W.heap.size W w4 from (by rw [hw]; exact below_drewN' L3.out q4))
      clear hw
      go_wp2_with fail
      go_at_call 14
      with_reducible refine (RB.out _).mono ?_
      rintro e w5 ⟨rfl, q5, hw⟩
      have L5 := Lib.hid (show Below W.heap.size W w5 from (by rw [hw]; exact below_drewN' L4.out q5))
      clear hw
      go_wp2_with fail
      go_ret
      exact ⟨rfl, L5.out⟩
end Go.Proofs.YtcomibocajjhoaaGreatDoor
