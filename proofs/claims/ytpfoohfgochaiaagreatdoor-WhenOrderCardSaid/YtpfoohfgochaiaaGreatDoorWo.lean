/- WhenOrder: the walk of the law's body. -/
import Derived.Test.YtpfoohfgochaiaaGreatDoorWl
import Derived.Test.YtpfoohfgochaiaaGreatDoorBe
namespace Go.Proofs.YtpfoohfgochaiaaGreatDoor
open Go.RowKit
theorem word_split (a : Nat) (ha : a < 18446744073709551616) : a = frung a + (if fneg a = true then 9223372036854775808 else 0) := by
  unfold frung fneg
  by_cases h : a / 9223372036854775808 % 2 = 1
  · rw [if_pos (by simpa using h)]; omega
  · rw [if_neg (by simpa using h)]; omega
theorem kk_inj (a b : Nat) (ha : a < 18446744073709551616) (hb : b < 18446744073709551616) (na : frung a ≤ finfR) (nb : frung b ≤ finfR) (h : kk a = kk b) : a = b := by
  have sa := word_split a ha
  have sb := word_split b hb
  unfold kk at h
  rw [if_neg (show ¬ finfR < frung a by omega), if_neg (show ¬ finfR < frung b by omega)] at h
  unfold fkey at h
  cases ea : fneg a <;> cases eb : fneg b <;> rw [ea] at sa h <;> rw [eb] at sb h <;> simp only [if_true, if_false, Bool.false_eq_true, Nat.add_zero] at sa sb h <;> (split at h <;> split at h <;> omega)
theorem fbits_num (a : Nat) (h : frung a ≤ finfR) : fbits a = a := by
  unfold fbits; rw [fnan_false a h]; rfl
theorem fbits_nan (a : Nat) (h : finfR < frung a) : fbits a = 9221120237041090561 := by
  unfold fbits; rw [fnan_true a h]; rfl
theorem frung_nan : frung 9221120237041090561 = 9221120237041090561 := by decide
theorem fbits_kk (a b : Nat) (ha : a < 18446744073709551616) (hb : b < 18446744073709551616) : fbits a = fbits b ↔ kk a = kk b := by
  rcases Nat.lt_or_ge finfR (frung a) with an | an <;> rcases Nat.lt_or_ge finfR (frung b) with bn | bn
  · rw [fbits_nan a an, fbits_nan b bn, kk_nan a an, kk_nan b bn]
    exact ⟨fun _ => rfl, fun _ => rfl⟩
  · rw [fbits_nan a an, fbits_num b bn, kk_nan a an]
    have := (kk_num b bn).1
    refine ⟨fun e => ?_, fun e => by omega⟩
    rw [← e, frung_nan] at bn
    unfold finfR at bn
    omega
  · rw [fbits_num a an, fbits_nan b bn, kk_nan b bn]
    have := (kk_num a an).1
    refine ⟨fun e => ?_, fun e => by omega⟩
    rw [e, frung_nan] at an
    unfold finfR at an
    omega
  · rw [fbits_num a an, fbits_num b bn]
    exact ⟨fun e => by rw [e], kk_inj a b ha hb an bn⟩
theorem kk_le (a : Nat) : kk a ≤ 100000000000000000000 := by
  rcases Nat.lt_or_ge finfR (frung a) with h | h
  · rw [kk_nan a h]; omega
  · have := (kk_num a h).1; omega
theorem kk_nan' : kk 9221120237041090561 = 100000000000000000000 := by decide
set_option maxRecDepth 10000 in
set_option maxHeartbeats 1600000 in
theorem whenOrder_any (W : World) (a b c : Nat) (ha : a < 18446744073709551616) (hb : b < 18446744073709551616) (hc : c < 18446744073709551616) (hG : Gl W) :
    Calls Tryz.prog 15 #[.float .f64 a, .float .f64 b, .float .f64 c] W fun e W' => e = .returned (.bool true) ∧ Below W.heap.size W W' := by
  have hbe := begun_any W hG
  have HB := Lib.hid hbe
  clear hbe hG
  have cna : ∀ w, Calls Tryz.prog 57 #[.float .f64 9221120237041090561, .float .f64 a] w fun e w' => e = .returned (.bool false) ∧ w = w' := fun w => (less_any w _ a (by omega) ha).mono (by
    rintro e w' ⟨rfl, rfl⟩; exact ⟨by rw [show fless 9221120237041090561 a = false from decide_eq_false (by have := kk_le a; rw [kk_nan']; omega)], rfl⟩)
  have cz1 : ∀ w, Calls Tryz.prog 57 #[.float .f64 9223372036854775808, .float .f64 0] w fun e w' => e = .returned (.bool true) ∧ w = w' := fun w => (less_any w _ _ (by omega) (by omega)).mono (by
    rintro e w' ⟨rfl, rfl⟩; exact ⟨by rw [show fless 9223372036854775808 0 = true from by decide], rfl⟩)
  have cz2 : ∀ w, Calls Tryz.prog 57 #[.float .f64 0, .float .f64 9223372036854775808] w fun e w' => e = .returned (.bool false) ∧ w = w' := fun w => (less_any w _ _ (by omega) (by omega)).mono (by
    rintro e w' ⟨rfl, rfl⟩; exact ⟨by rw [show fless 0 9223372036854775808 = false from by decide], rfl⟩)
  obtain ⟨q, hq⟩ : ∃ q : Bool, q = fnan a := ⟨_, rfl⟩
  have f2 : (FloatKind.f64.format.order a a != some Ordering.eq) = q := hq.symm
  have can : q = false → ∀ w, Calls Tryz.prog 57 #[.float .f64 a, .float .f64 9221120237041090561] w fun e w' => e = .returned (.bool true) ∧ w = w' := fun hf w => (less_any w a _ ha (by omega)).mono (by
    have hn : frung a ≤ finfR := by
      rcases Nat.lt_or_ge finfR (frung a) with h | h
      · rw [fnan_true a h, hf] at hq; cases hq
      · exact h
    rintro e w' ⟨rfl, rfl⟩; exact ⟨by rw [show fless a 9221120237041090561 = true from decide_eq_true (by have := (kk_num a hn).1; rw [kk_nan']; omega)], rfl⟩)
  obtain ⟨za, hza⟩ : ∃ z : Int, z = (fbits a : Nat) := ⟨_, rfl⟩
  obtain ⟨zb, hzb⟩ : ∃ z : Int, z = (fbits b : Nat) := ⟨_, rfl⟩
  have cba : ∀ w, Calls Tryz.prog 53 #[.float .f64 a] w fun e w' => e = .returned (.int .u64 za) ∧ w = w' := fun w => (bits_any w a).mono (by rintro e w' ⟨rfl, rfl⟩; exact ⟨by rw [hza], rfl⟩)
  have cbb : ∀ w, Calls Tryz.prog 53 #[.float .f64 b] w fun e w' => e = .returned (.int .u64 zb) ∧ w = w' := fun w => (bits_any w b).mono (by rintro e w' ⟨rfl, rfl⟩; exact ⟨by rw [hzb], rfl⟩)
  have hiff : za = zb ↔ kk a = kk b := by rw [← fbits_kk a b ha hb, hza, hzb]; omega
  obtain ⟨x, hx⟩ : ∃ x : Bool, x = fless a b := ⟨_, rfl⟩
  obtain ⟨y, hy⟩ : ∃ y : Bool, y = fless b a := ⟨_, rfl⟩
  obtain ⟨u, hu⟩ : ∃ u : Bool, u = fless b c := ⟨_, rfl⟩
  obtain ⟨v, hv⟩ : ∃ v : Bool, v = fless a c := ⟨_, rfl⟩
  have lab : ∀ w, Calls Tryz.prog 57 #[.float .f64 a, .float .f64 b] w fun e w' => e = .returned (.bool x) ∧ w = w' := fun w => by rw [hx]; exact less_any w a b ha hb
  have lba : ∀ w, Calls Tryz.prog 57 #[.float .f64 b, .float .f64 a] w fun e w' => e = .returned (.bool y) ∧ w = w' := fun w => by rw [hy]; exact less_any w b a hb ha
  have lbc : ∀ w, Calls Tryz.prog 57 #[.float .f64 b, .float .f64 c] w fun e w' => e = .returned (.bool u) ∧ w = w' := fun w => by rw [hu]; exact less_any w b c hb hc
  have lac : ∀ w, Calls Tryz.prog 57 #[.float .f64 a, .float .f64 c] w fun e w' => e = .returned (.bool v) ∧ w = w' := fun w => by rw [hv]; exact less_any w a c ha hc
  have hall : (x = true ∧ y = false ∧ ¬ za = zb ∧ (u = true → v = true)) ∨ (x = false ∧ y = false ∧ za = zb) ∨ (x = false ∧ y = true ∧ ¬ za = zb) := by
    rw [hx, hy, hu, hv, hiff]
    unfold fless
    simp only [decide_eq_true_eq, decide_eq_false_iff_not]
    omega
  clear hx hy hu hv hiff hza hzb hq ha hb hc
  rcases hall with ⟨rfl, rfl, hz, huv⟩ | ⟨rfl, rfl, hz⟩ | ⟨rfl, rfl, hz⟩
  · cases u
    all_goals cases q
    all_goals
      first | (have hv1 := huv rfl; subst hv1; clear huv) | clear huv
      first | (have can2 := can rfl; clear can) | clear can
      go_enter Tryz.func15, Tryz.ntmps15
      go_wp2_with (first
        | (go_at_call 23; refine HB.out.mono ?_; rintro e w1 ⟨rfl, hb⟩; have L1 := Lib.hid hb; clear hb)
        | (go_at_call 59; refine (nan_any _).mono ?_; rintro e w' ⟨rfl, hw⟩; replace hw := hw.symm; subst hw)
        | (go_at_call 58; refine (copysign_neg0 _).mono ?_; rintro e w' ⟨rfl, hw⟩; replace hw := hw.symm; subst hw)
        | (go_at_call 53; (with_reducible refine (cba _).mono ?_); rintro e w' ⟨rfl, rfl⟩)
        | (go_at_call 53; (with_reducible refine (cbb _).mono ?_); rintro e w' ⟨rfl, rfl⟩)
        | (go_at_call 57; (first | with_reducible refine (lab _).mono ?_ | with_reducible refine (lba _).mono ?_ | with_reducible refine (lbc _).mono ?_ | with_reducible refine (lac _).mono ?_ | with_reducible refine (cna _).mono ?_ | with_reducible refine (cz1 _).mono ?_ | with_reducible refine (cz2 _).mono ?_ | with_reducible refine (can2 _).mono ?_); rintro e w' ⟨rfl, rfl⟩))
      go_ret
      exact ⟨rfl, L1.out⟩
  all_goals
    try subst hz
    cases q
    all_goals
      first | (have can2 := can rfl; clear can) | clear can
      go_enter Tryz.func15, Tryz.ntmps15
      go_wp2_with (first
        | (go_at_call 23; refine HB.out.mono ?_; rintro e w1 ⟨rfl, hb⟩; have L1 := Lib.hid hb; clear hb)
        | (go_at_call 59; refine (nan_any _).mono ?_; rintro e w' ⟨rfl, hw⟩; replace hw := hw.symm; subst hw)
        | (go_at_call 58; refine (copysign_neg0 _).mono ?_; rintro e w' ⟨rfl, hw⟩; replace hw := hw.symm; subst hw)
        | (go_at_call 53; (with_reducible refine (cba _).mono ?_); rintro e w' ⟨rfl, rfl⟩)
        | (go_at_call 53; (with_reducible refine (cbb _).mono ?_); rintro e w' ⟨rfl, rfl⟩)
        | (go_at_call 57; (first | with_reducible refine (lab _).mono ?_ | with_reducible refine (lba _).mono ?_ | with_reducible refine (lbc _).mono ?_ | with_reducible refine (lac _).mono ?_ | with_reducible refine (cna _).mono ?_ | with_reducible refine (cz1 _).mono ?_ | with_reducible refine (cz2 _).mono ?_ | with_reducible refine (can2 _).mono ?_); rintro e w' ⟨rfl, rfl⟩))
      go_ret
      exact ⟨rfl, L1.out⟩
end Go.Proofs.YtpfoohfgochaiaaGreatDoor
