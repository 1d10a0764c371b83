/- math.Nextafter beside 1, math.Inf. -/
import Derived.Test.YtmnndehoopmmaaaGreatDoorFc
import Derived.Test.YtmnndehoopmmaaaGreatDoorBe
namespace Go.Proofs.YtmnndehoopmmaaaGreatDoor
open Go.RowKit
set_option maxRecDepth 20000 in
set_option maxHeartbeats 1600000 in
theorem next_dn (W : World) (x y : Nat) (z : Int) (hx : fnan x = false) (hy : fnan y = false) (h1 : (FloatKind.f64.format.order x y == some Ordering.eq) = false) (h2 : (FloatKind.f64.format.order x 0 == some Ordering.eq) = false)
    (h3 : (FloatKind.f64.format.order y x == some Ordering.gt) = false) (h4 : (FloatKind.f64.format.order x 0 == some Ordering.gt) = true) (hz : IntKind.u64.wrap ((x : Int) - 1) = z) :
    Calls Tryz.prog 29 #[.float .f64 x, .float .f64 y] W fun e W' => e = .returned (.float .f64 z.toNat) ∧ W' = W := by
  have b1 := run_bits
  have b2 := run_frombits
  have cx : ∀ w, Calls Tryz.prog 66 #[.float .f64 x] w fun e w' => e = .returned (.bool false) ∧ w' = w := fun w => (isnan_any w x).mono (by rintro e w' ⟨rfl, rfl⟩; exact ⟨by rw [hx], rfl⟩)
  have cy : ∀ w, Calls Tryz.prog 66 #[.float .f64 y] w fun e w' => e = .returned (.bool false) ∧ w' = w := fun w => (isnan_any w y).mono (by rintro e w' ⟨rfl, rfl⟩; exact ⟨by rw [hy], rfl⟩)
  have CX := Lib.hid cx
  have CY := Lib.hid cy
  clear cx cy hx hy
  go_enter Tryz.func29, Tryz.ntmps29
  go_wp2_with (first
    | (go_at_call 66; (with_reducible refine (CX.out _).mono ?_); rintro e w' ⟨rfl, hw⟩; replace hw := hw.symm; subst hw)
    | (go_at_call 66; (with_reducible refine (CY.out _).mono ?_); rintro e w' ⟨rfl, hw⟩; replace hw := hw.symm; subst hw))
  go_ret
  exact ⟨rfl, rfl⟩
set_option maxRecDepth 20000 in
set_option maxHeartbeats 1600000 in
theorem next_up (W : World) (x y : Nat) (z : Int) (hx : fnan x = false) (hy : fnan y = false) (h1 : (FloatKind.f64.format.order x y == some Ordering.eq) = false) (h2 : (FloatKind.f64.format.order x 0 == some Ordering.eq) = false)
    (h3 : (FloatKind.f64.format.order y x == some Ordering.gt) = true) (h4 : (FloatKind.f64.format.order x 0 == some Ordering.gt) = true) (hz : IntKind.u64.wrap ((x : Int) + 1) = z) :
    Calls Tryz.prog 29 #[.float .f64 x, .float .f64 y] W fun e W' => e = .returned (.float .f64 z.toNat) ∧ W' = W := by
  have b1 := run_bits
  have b2 := run_frombits
  have cx : ∀ w, Calls Tryz.prog 66 #[.float .f64 x] w fun e w' => e = .returned (.bool false) ∧ w' = w := fun w => (isnan_any w x).mono (by rintro e w' ⟨rfl, rfl⟩; exact ⟨by rw [hx], rfl⟩)
  have cy : ∀ w, Calls Tryz.prog 66 #[.float .f64 y] w fun e w' => e = .returned (.bool false) ∧ w' = w := fun w => (isnan_any w y).mono (by rintro e w' ⟨rfl, rfl⟩; exact ⟨by rw [hy], rfl⟩)
  have CX := Lib.hid cx
  have CY := Lib.hid cy
  clear cx cy hx hy
  go_enter Tryz.func29, Tryz.ntmps29
  go_wp2_with (first
    | (go_at_call 66; (with_reducible refine (CX.out _).mono ?_); rintro e w' ⟨rfl, hw⟩; replace hw := hw.symm; subst hw)
    | (go_at_call 66; (with_reducible refine (CY.out _).mono ?_); rintro e w' ⟨rfl, hw⟩; replace hw := hw.symm; subst hw))
  go_ret
  exact ⟨rfl, rfl⟩
theorem inf_pos (W : World) : Calls Tryz.prog 30 #[.int .i64 1] W fun e W' => e = .returned (.float .f64 9218868437227405312) ∧ W' = W := by
  have b2 := run_frombits
  go_enter Tryz.func30, Tryz.ntmps30
  go_wp2
  go_ret
  exact ⟨rfl, rfl⟩
theorem inf_neg (W : World) : Calls Tryz.prog 30 #[.int .i64 (-1)] W fun e W' => e = .returned (.float .f64 18442240474082181120) ∧ W' = W := by
  have b2 := run_frombits
  go_enter Tryz.func30, Tryz.ntmps30
  go_wp2
  go_ret
  exact ⟨rfl, rfl⟩
end Go.Proofs.YtmnndehoopmmaaaGreatDoor
