/- The document's floats: May, Norm, Less, Bits tell what the program's tell. -/
import Derived.Test.YtmnndehoopmmaaaGreatDoorWl
namespace Go.Proofs.YtmnndehoopmmaaaGreatDoor
open Go.RowKit Ieee
theorem sub_fin (b : Nat) (h : frung b < finfR) : floatBits .sub .f64 b b = some 0 := by
  obtain ⟨m, e, h1, _, _⟩ := read_fin b h
  show double.sub b b = some 0
  unfold Format.sub
  rw [h1]
  simp only [Datum.opposite, Datum.sum]
  have : signed (fneg b) m (e - min e e).toNat + signed (!fneg b) m (e - min e e).toNat = 0 := by
    unfold signed
    cases fneg b <;> simp <;> omega
  rw [if_pos this]
  simp only [this, Int.natAbs_zero, Option.map_some]
  cases fneg b <;> rfl
theorem sub_bad (b : Nat) (h : finfR ≤ frung b) : double.sub b b = none := by
  unfold Format.sub
  rcases Nat.eq_or_lt_of_le h with h | h
  · rw [read_inf b h.symm]
    simp only [Datum.opposite, Datum.sum]
    cases fneg b <;> rfl
  · obtain ⟨n, t, h1⟩ := read_nan b h
    rw [h1]
    rfl
/-- What a float less itself is, that is none: a NaN of some bits. -/
def nanAt (w : World) (b : Nat) : Nat := (Question.nanBits .f64 b b).cut (w.tape w.drawn (.nanBits .f64 b b))
theorem nanAt_rung (w : World) (b : Nat) : finfR < frung (nanAt w b) := by
  unfold nanAt Question.cut finfR frung
  simp only []
  rw [show (2 : Nat) ^ 63 = 9223372036854775808 by decide, show (2 : Nat) ^ 52 = 4503599627370496 by decide]
  generalize w.tape w.drawn (.nanBits .f64 b b) = t
  have h1 : t % 2 = 0 ∨ t % 2 = 1 := by omega
  have h2 : t / 2 % (4503599627370496 - 1) < 4503599627370495 := Nat.mod_lt _ (by omega)
  generalize t / 2 % (4503599627370496 - 1) = r at h2
  rcases h1 with h1 | h1 <;> rw [h1] <;> omega
theorem run_sub_bad {P : Program} (T : TypeId) (b : Nat) (h : finfR ≤ frung b) (w : World) : (binOp .sub T (.float .f64 b) (.float .f64 b)).run P w = .ok (.float .f64 (nanAt w b)) w.drew := by
  have h1 : FloatKind.f64.format.sub b b = none := sub_bad b h
  simp [binOp, Op.floatArith, h1, Question.forced, nanAt]
theorem nan_ne (b : Nat) (h : finfR < frung b) (c : Nat) : (FloatKind.f64.format.order b c == some Ordering.eq) = false ∧ (FloatKind.f64.format.order b c != some Ordering.eq) = true := by
  rw [f64_double, order_nan_l b c h]
  exact ⟨rfl, rfl⟩
theorem run_sub_fin {P : Program} (T : TypeId) (b : Nat) (h : frung b < finfR) (w : World) : (binOp .sub T (.float .f64 b) (.float .f64 b)).run P w = .ok (.float .f64 0) w := run_float_arith w .sub T .f64 b b 0 (sub_fin b h)
theorem run_one_by {P : Program} (T : TypeId) (w : World) : (binOp .quo T (.float .f64 4607182418800017408) (.float .f64 0)).run P w = .ok (.float .f64 9218868437227405312) w ∧ (binOp .quo T (.float .f64 4607182418800017408) (.float .f64 9223372036854775808)).run P w = .ok (.float .f64 18442240474082181120) w :=
  ⟨run_float_arith w .quo T .f64 _ _ _ (by decide +kernel), run_float_arith w .quo T .f64 _ _ _ (by decide +kernel)⟩
theorem zero_facts : (FloatKind.f64.format.order 0 0 == some Ordering.eq) = true ∧ (FloatKind.f64.format.order 0 0 != some Ordering.eq) = false ∧ (FloatKind.f64.format.order 9223372036854775808 0 == some Ordering.eq) = true ∧ (FloatKind.f64.format.order 9223372036854775808 0 != some Ordering.eq) = false ∧
    (FloatKind.f64.format.order 9218868437227405312 0 == some Ordering.gt) = true ∧ (FloatKind.f64.format.order 18442240474082181120 0 == some Ordering.gt) = false ∧ (FloatKind.f64.format.order 9218868437227405312 0 == some Ordering.lt) = false ∧ (FloatKind.f64.format.order 18442240474082181120 0 == some Ordering.lt) = true ∧
    (FloatKind.f64.format.order 9223372036854775808 9223372036854775808 == some Ordering.eq) = true ∧ (FloatKind.f64.format.order 9223372036854775808 9223372036854775808 != some Ordering.eq) = false := by decide +kernel
theorem fmay_zeros : fmay 0 = true ∧ fmay 9223372036854775808 = false := by decide +kernel
theorem order_nz (b : Nat) (h : frung b ≠ 0) : (FloatKind.f64.format.order b 0 == some Ordering.eq) = false ∧ (FloatKind.f64.format.order b 0 != some Ordering.eq) = true := by
  have := fnz_true b h
  unfold fnz at this
  have h2 : (FloatKind.f64.format.order b 0 == some Ordering.eq) = false := by
    simp only [bne, Bool.not_eq_true'] at this
    exact this
  exact ⟨h2, this⟩
set_option maxRecDepth 20000 in
set_option maxHeartbeats 1600000 in
theorem rmay_any (W : World) (b : Nat) (hb : b < 18446744073709551616) : Calls Tryz.prog 22 #[.float .f64 b] W fun e W' => e = .returned (.bool (fmay b)) ∧ ∃ n, W' = W.drewN n := by
  rcases Nat.lt_or_ge finfR (frung b) with hn | hn
  · obtain ⟨e1, e2⟩ := nan_ne b hn b
    rw [fmay_nan' b hn]
    clear hn hb
    go_enter Tryz.func22, Tryz.ntmps22
    go_wp2
    go_ret
    exact ⟨rfl, 0, rfl⟩
  have e1 : (FloatKind.f64.format.order b b == some Ordering.eq) = true := by rw [f64_double, order_self b hn]; rfl
  rcases Nat.eq_or_lt_of_le hn with hi | hi
  · have hs := fun w => run_sub_bad (P := Tryz.prog) 29 b (Nat.le_of_eq hi.symm) w
    have ho := fun w => (nan_ne _ (nanAt_rung w b) 0).1
    rw [fmay_inf b hb hi]
    clear hn hb hi
    go_enter Tryz.func22, Tryz.ntmps22
    go_wp2
    go_ret
    exact ⟨rfl, 1, rfl⟩
  have hs := fun w => run_sub_fin (P := Tryz.prog) 29 b hi w
  obtain ⟨q1, q2, q3, q4, q5, q6, q7, q8, q9, q10⟩ := zero_facts
  have r1 := fun w => (run_one_by (P := Tryz.prog) 29 w).1
  have r2 := fun w => (run_one_by (P := Tryz.prog) 29 w).2
  by_cases h0 : frung b = 0
  · obtain ⟨f1, f2⟩ := fmay_zeros
    rcases fzero b hb h0 with rfl | rfl
    · rw [f1]
      clear hn hb hi h0 f1 f2
      go_enter Tryz.func22, Tryz.ntmps22
      go_wp2
      go_ret
      exact ⟨rfl, 0, rfl⟩
    · rw [f2]
      clear hn hb hi h0 f1 f2
      go_enter Tryz.func22, Tryz.ntmps22
      go_wp2
      go_ret
      exact ⟨rfl, 0, rfl⟩
  · obtain ⟨z1, z2⟩ := order_nz b h0
    rw [fmay_fin b hb hi h0]
    clear hn hb hi h0
    go_enter Tryz.func22, Tryz.ntmps22
    go_wp2
    go_ret
    exact ⟨rfl, 0, rfl⟩
set_option maxRecDepth 20000 in
set_option maxHeartbeats 1600000 in
theorem rnorm_any (W : World) (b : Nat) (hb : b < 18446744073709551616) : Calls Tryz.prog 21 #[.float .f64 b] W fun e W' => e = .returned (normV b) ∧ ∃ n, W' = W.drewN n := by
  rcases Nat.lt_or_ge (frung b) finfR with hn | hn
  · have hs := fun w => run_sub_fin (P := Tryz.prog) 29 b hn w
    obtain ⟨q1, q2, q3, q4, q5, q6, q7, q8, q9, q10⟩ := zero_facts
    by_cases h0 : frung b = 0
    · rw [normV_zero b h0]
      have z1 : (FloatKind.f64.format.order b 0 == some Ordering.eq) = true := by
        rcases fzero b hb h0 with rfl | rfl
        · exact q1
        · exact q3
      clear hn hb h0
      go_enter Tryz.func21, Tryz.ntmps21
      go_wp2
      go_ret2
      exact ⟨rfl, 0, rfl⟩
    · obtain ⟨z1, z2⟩ := order_nz b h0
      rw [normV_fin b h0 (fmay_fin b hb hn h0)]
      clear hn hb h0
      go_enter Tryz.func21, Tryz.ntmps21
      go_wp2
      go_ret2
      exact ⟨rfl, 0, rfl⟩
  · have hs := fun w => run_sub_bad (P := Tryz.prog) 29 b hn w
    have ho := fun w => (nan_ne _ (nanAt_rung w b) 0).2
    have hv : normV b = .tuple #[.float .f64 0, .bool false] := by
      rcases Nat.eq_or_lt_of_le hn with hi | hi
      · exact normV_not b (by unfold finfR at hi; omega) (fmay_inf b hb hi.symm)
      · exact normV_not b (by unfold finfR at hi; omega) (fmay_nan' b hi)
    rw [hv]
    clear hn hb hv
    go_enter Tryz.func21, Tryz.ntmps21
    go_wp2
    go_ret2
    exact ⟨rfl, 1, rfl⟩
set_option maxHeartbeats 1600000 in
theorem rbits_any (W : World) (b : Nat) : Calls Tryz.prog 26 #[.float .f64 b] W fun e W' => e = .returned (.int .u64 (fbits b)) ∧ W' = W := by
  have h1 := run_bits
  rcases Nat.lt_or_ge finfR (frung b) with hn | hn
  · obtain ⟨e1, e2⟩ := nan_ne b hn b
    unfold fbits
    rw [fnan_true b hn]
    clear hn
    go_enter Tryz.func26, Tryz.ntmps26
    go_wp2
    go_ret
    exact ⟨rfl, rfl⟩
  · have e1 : (FloatKind.f64.format.order b b != some Ordering.eq) = false := by rw [f64_double, order_self b hn]; rfl
    unfold fbits
    rw [fnan_false b hn]
    clear hn
    go_enter Tryz.func26, Tryz.ntmps26
    go_wp2
    go_ret
    exact ⟨rfl, rfl⟩
set_option maxRecDepth 20000 in
set_option maxHeartbeats 3200000 in
theorem rless_any (W : World) (a b : Nat) (ha : a < 18446744073709551616) (hb : b < 18446744073709551616) : Calls Tryz.prog 25 #[.float .f64 a, .float .f64 b] W fun e W' => e = .returned (.bool (fless a b)) ∧ W' = W := by
  rcases Nat.lt_or_ge finfR (frung a) with an | an
  · obtain ⟨e1, e2⟩ := nan_ne a an a
    have hr : fless a b = false := by
      unfold fless
      rw [kk_nan a an, decide_eq_false]
      rcases Nat.lt_or_ge finfR (frung b) with bn | bn
      · rw [kk_nan b bn]; omega
      · have := (kk_num b bn).1; omega
    rw [hr]
    clear an ha hb hr
    go_enter Tryz.func25, Tryz.ntmps25
    go_wp2
    go_ret
    exact ⟨rfl, rfl⟩
  have e1 : (FloatKind.f64.format.order a a != some Ordering.eq) = false := by rw [f64_double, order_self a an]; rfl
  have e2 : (FloatKind.f64.format.order a a == some Ordering.eq) = true := by rw [f64_double, order_self a an]; rfl
  rcases Nat.lt_or_ge finfR (frung b) with bn | bn
  · obtain ⟨g1, g2⟩ := nan_ne b bn b
    have hr : fless a b = true := by
      unfold fless
      rw [kk_nan b bn, decide_eq_true (kk_num a an).1]
    rw [hr]
    clear an bn ha hb hr
    go_enter Tryz.func25, Tryz.ntmps25
    go_wp2
    go_ret
    exact ⟨rfl, rfl⟩
  have g1 : (FloatKind.f64.format.order b b != some Ordering.eq) = false := by rw [f64_double, order_self b bn]; rfl
  have za := order_eq_zero a an
  have zb := order_eq_zero b bn
  by_cases a0 : frung a = 0
  · rw [decide_eq_true a0] at za
    by_cases b0 : frung b = 0
    · clear an bn za zb e1 e2 g1
      obtain ⟨q1, q2, q3, q4, q5, q6, q7, q8, q9, q10⟩ := zero_facts
      have r1 := fun w => (run_one_by (P := Tryz.prog) 29 w).1
      have r2 := fun w => (run_one_by (P := Tryz.prog) 29 w).2
      have l1 : fless 0 0 = false := by decide
      have l2 : fless 0 9223372036854775808 = false := by decide
      have l3 : fless 9223372036854775808 0 = true := by decide
      have l4 : fless 9223372036854775808 9223372036854775808 = false := by decide
      rcases fzero a ha a0 with rfl | rfl <;> rcases fzero b hb b0 with rfl | rfl
      all_goals
        first | rw [l1] | rw [l2] | rw [l3] | rw [l4]
        clear l1 l2 l3 l4 ha hb a0 b0
        go_enter Tryz.func25, Tryz.ntmps25
        go_wp2
        go_ret
        exact ⟨rfl, rfl⟩
    · have hl := order_lt_kk a b an bn (fun h => b0 h.2)
      rw [decide_eq_false b0] at zb
      clear an bn a0 b0 ha hb
      go_enter Tryz.func25, Tryz.ntmps25
      go_wp2
      go_ret
      exact ⟨rfl, rfl⟩
  · have hl := order_lt_kk a b an bn (fun h => a0 h.1)
    rw [decide_eq_false a0] at za
    clear an bn a0 ha hb
    go_enter Tryz.func25, Tryz.ntmps25
    go_wp2
    go_ret
    exact ⟨rfl, rfl⟩
end Go.Proofs.YtmnndehoopmmaaaGreatDoor
