/- when: Bits, Put. -/
import Derived.Test.YtpfoohfgochaiaaGreatDoorGl
import Derived.Test.YtpfoohfgochaiaaGreatDoorWc
namespace Go.Proofs.YtpfoohfgochaiaaGreatDoor
open Go.RowKit
/-- The bits, one NaN for all. -/
def fbits (b : Nat) : Nat := bif fnan b then 9221120237041090561 else b
set_option maxHeartbeats 400000 in
theorem bits_any (W : World) (b : Nat) : Calls Tryz.prog 53 #[.float .f64 b] W fun e W' => e = .returned (.int .u64 (fbits b)) ∧ W' = W := by
  have h1 := run_bits
  cases hn : fnan b
  all_goals
    go_enter Tryz.func53, Tryz.ntmps53
    go_wp2_with (go_at_call 102; refine (isnan_any _ b).mono ?_; rintro e w' ⟨he, rfl⟩; rw [hn] at he; subst he)
    go_ret
    exact ⟨by simp [fbits, hn], rfl⟩
/-- A time's digits. -/
def wput (b : Nat) : List UInt8 := bif fmay b then List.replicate (16 - (hexS b).length) 48 ++ hexS b else []
theorem fmay_nan {b : Nat} (h : fmay b = true) : fnan b = false := by
  unfold fmay at h
  cases hn : fnan b
  · rfl
  · rw [hn] at h; cases h
theorem repeatL_one (c : UInt8) (n : Nat) : Lib.repeatL [c] n = List.replicate n c := by
  induction n with
  | zero => rfl
  | succ n ih => rw [Lib.repeatL, ih, List.replicate_succ]; rfl
set_option maxHeartbeats 800000 in
theorem wput_any (W : World) (b : Nat) (hb : b < 18446744073709551616) (hG : Gl W) : Calls Tryz.prog 65 #[.float .f64 b] W fun e W' => e = .returned (.string ⟨(wput b).toArray⟩) ∧ Below W.heap.size W W' := by
  obtain ⟨p, hp⟩ : ∃ p : ByteArray, p = ⟨(wput b).toArray⟩ := ⟨_, rfl⟩
  rw [← hp]
  cases hm : fmay b
  · have h2 : wput b = [] := by unfold wput; rw [hm]; rfl
    have HP := Lib.hid hp
    clear hp hG
    go_enter Tryz.func65, Tryz.ntmps65
    go_wp2_with (go_at_call 54; refine (may_any _ b).mono ?_; rintro e w' ⟨he, rfl⟩; rw [hm] at he; subst he)
    go_ret
    exact ⟨by rw [HP.out, h2]; rfl, Below.refl _ _⟩
  · have hn := fmay_nan hm
    have hl : (hexS b).length ≤ 16 := hexS_len 15 b (by simpa using hb)
    have hl1 := hexS_pos b
    obtain ⟨s, hs⟩ : ∃ s : ByteArray, s = ⟨(hexS b).toArray⟩ := ⟨_, rfl⟩
    have hz : s.size = (hexS b).length := by rw [hs]; exact (ba_size _)
    have s1 : (s.size : Int) ≤ 16 := by omega
    have s0 : (0 : Int) ≤ (s.size : Int) := by omega
    have h2 : wput b = List.replicate (16 - s.size) 48 ++ s.data.toList := by unfold wput; rw [hm, hz, hs]; rfl
    have hbits : (fbits b : Nat) = b := by unfold fbits; rw [hn]; rfl
    have hfu := fuint_16 W b hb hG.deb
    rw [← hs] at hfu
    obtain ⟨m, hmm⟩ : ∃ m : Nat, m = 16 - s.size := ⟨_, rfl⟩
    have hm2 : (16 : Int) - (s.size : Int) = (m : Int) := by omega
    obtain ⟨z, hzz⟩ : ∃ z : ByteArray, z = ⟨(Lib.repeatL [48] m).toArray⟩ := ⟨_, rfl⟩
    have hz2 : z.data.toList = List.replicate m 48 := by rw [hzz]; exact repeatL_one 48 m
    have hz3 : z.size ≤ 16 := by rw [ba_size, hz2]; simp; omega
    have hrep := fun w => Tryz.strings_Repeat ⟨#[48]⟩ m w (by omega) (by have : (ByteArray.mk #[48]).size = 1 := rfl; rw [this]; omega)
    have HP := Lib.hid hp
    have HF := Lib.hid hfu
    have HM := Lib.hid hmm
    have H2 := Lib.hid h2
    have HZ := Lib.hid hz2
    have hrep2 : ∀ w, Calls Tryz.prog 110 #[.string ⟨#[48]⟩, .int .i64 m] w fun e w' => e = .returned (.string z) ∧ Below w.heap.size w w' := by
      intro w; rw [hzz]; exact hrep w
    clear hp hG hfu hmm h2 hz2 hl hl1 hz hs hrep hzz
    go_enter Tryz.func65, Tryz.ntmps65
    go_wp2_with (first
      | (go_at_call 54; refine (may_any _ b).mono ?_; rintro e w' ⟨he, rfl⟩; rw [hm] at he; subst he)
      | (go_at_call 53; refine (bits_any _ b).mono ?_; rintro e w' ⟨he, rfl⟩; rw [hbits] at he; subst he)
      | (go_at_call 109; refine HF.out.mono ?_; rintro e w1 ⟨rfl, hb⟩; have B1 := Lib.hid hb; clear hb)
      | (go_at_call 110; refine (hrep2 _).mono ?_; rintro e w2 ⟨rfl, hb⟩; have B2 := Lib.hid hb; clear hb))
    go_ret
    refine ⟨?_, B1.out.trans (B2.out.mono B1.out.size)⟩
    have e : z ++ s = p := ba_ext (by rw [ba_append, HZ.out, HP.out, H2.out, HM.out])
    rw [← e]
    rfl
end Go.Proofs.YtpfoohfgochaiaaGreatDoor
