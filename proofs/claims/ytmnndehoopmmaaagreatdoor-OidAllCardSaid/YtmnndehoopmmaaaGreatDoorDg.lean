/- when: Bits, Put. when.digits: is a text some digits? -/
import Derived.Test.YtmnndehoopmmaaaGreatDoorLe
import Derived.Test.YtmnndehoopmmaaaGreatDoorW
import Derived.Shelf.Strings.SlTrimAscii
namespace Go.Proofs.YtmnndehoopmmaaaGreatDoor
open Go.RowKit
/-- The bits, one NaN for all. -/
def fbits (b : Nat) : Nat := bif fnan b then 9221120237041090561 else b
set_option maxHeartbeats 400000 in
theorem bits_any (W : World) (b : Nat) : Calls Tryz.prog 15 #[.float .f64 b] W fun e W' => e = .returned (.int .u64 (fbits b)) ∧ W' = W := by
  have h1 := run_bits
  cases hn : fnan b
  all_goals
    go_enter Tryz.func15, Tryz.ntmps15
    go_wp2_with (go_at_call 66; refine (isnan_any _ b).mono ?_; rintro e w' ⟨he, rfl⟩; rw [hn] at he; subst he)
    go_ret
    exact ⟨by simp [fbits, hn], rfl⟩
/-- A time's digits. -/
def wput (b : Nat) : List UInt8 := bif fmay b then List.replicate (16 - (hexS b).length) 48 ++ hexS b else []
theorem fmay_nan {b : Nat} (h : fmay b = true) : fnan b = false := by
  unfold fmay at h
  cases hn : fnan b
  · rfl
  · rw [hn] at h; cases h
theorem repeatL_one (c : UInt8) (n : Nat) : Lib.repeatL [c] n = List.replicate n c := by
  induction n with
  | zero => rfl
  | succ n ih => rw [Lib.repeatL, ih, List.replicate_succ]; rfl
set_option maxHeartbeats 800000 in
theorem wput_any (W : World) (b : Nat) (hb : b < 18446744073709551616) (hG : Gl W) : Calls Tryz.prog 16 #[.float .f64 b] W fun e W' => e = .returned (.string ⟨(wput b).toArray⟩) ∧ Below W.heap.size W W' := by
  obtain ⟨p, hp⟩ : ∃ p : ByteArray, p = ⟨(wput b).toArray⟩ := ⟨_, rfl⟩
  rw [← hp]
  cases hm : fmay b
  · have h2 : wput b = [] := by unfold wput; rw [hm]; rfl
    have HP := Lib.hid hp
    clear hp hG
    go_enter Tryz.func16, Tryz.ntmps16
    go_wp2_with (go_at_call 18; refine (may_any _ b).mono ?_; rintro e w' ⟨he, rfl⟩; rw [hm] at he; subst he)
    go_ret
    exact ⟨by rw [HP.out, h2]; rfl, Below.refl _ _⟩
  · have hn := fmay_nan hm
    have hl : (hexS b).length ≤ 16 := hexS_len 15 b (by simpa using hb)
    have hl1 := hexS_pos b
    obtain ⟨s, hs⟩ : ∃ s : ByteArray, s = ⟨(hexS b).toArray⟩ := ⟨_, rfl⟩
    have hz : s.size = (hexS b).length := by rw [hs]; exact (ba_size _)
    have s1 : (s.size : Int) ≤ 16 := by omega
    have s0 : (0 : Int) ≤ (s.size : Int) := by omega
    have h2 : wput b = List.replicate (16 - s.size) 48 ++ s.data.toList := by unfold wput; rw [hm, hz, hs]; rfl
    have hbits : (fbits b : Nat) = b := by unfold fbits; rw [hn]; rfl
    have hfu := fuint_16 W b hb hG.deb
    rw [← hs] at hfu
    obtain ⟨m, hmm⟩ : ∃ m : Nat, m = 16 - s.size := ⟨_, rfl⟩
    have hm2 : (16 : Int) - (s.size : Int) = (m : Int) := by omega
    obtain ⟨z, hzz⟩ : ∃ z : ByteArray, z = ⟨(Lib.repeatL [48] m).toArray⟩ := ⟨_, rfl⟩
    have hz2 : z.data.toList = List.replicate m 48 := by rw [hzz]; exact repeatL_one 48 m
    have hz3 : z.size ≤ 16 := by rw [ba_size, hz2]; simp; omega
    have hrep := fun w => Tryz.strings_Repeat ⟨#[48]⟩ m w (by omega) (by have : (ByteArray.mk #[48]).size = 1 := rfl; rw [this]; omega)
    have HP := Lib.hid hp
    have HF := Lib.hid hfu
    have HM := Lib.hid hmm
    have H2 := Lib.hid h2
    have HZ := Lib.hid hz2
    have hrep2 : ∀ w, Calls Tryz.prog 68 #[.string ⟨#[48]⟩, .int .i64 m] w fun e w' => e = .returned (.string z) ∧ Below w.heap.size w w' := by
      intro w; rw [hzz]; exact hrep w
    clear hp hG hfu hmm h2 hz2 hl hl1 hz hs hrep hzz
    go_enter Tryz.func16, Tryz.ntmps16
    go_wp2_with (first
      | (go_at_call 18; refine (may_any _ b).mono ?_; rintro e w' ⟨he, rfl⟩; rw [hm] at he; subst he)
      | (go_at_call 15; refine (bits_any _ b).mono ?_; rintro e w' ⟨he, rfl⟩; rw [hbits] at he; subst he)
      | (go_at_call 67; refine HF.out.mono ?_; rintro e w1 ⟨rfl, hb⟩; have B1 := Lib.hid hb; clear hb)
      | (go_at_call 68; refine (hrep2 _).mono ?_; rintro e w2 ⟨rfl, hb⟩; have B2 := Lib.hid hb; clear hb))
    go_ret
    refine ⟨?_, B1.out.trans (B2.out.mono B1.out.size)⟩
    have e : z ++ s = p := ba_ext (by rw [ba_append, HZ.out, HP.out, H2.out, HM.out])
    rw [← e]
    rfl
end Go.Proofs.YtmnndehoopmmaaaGreatDoor
namespace Go.Proofs.YtmnndehoopmmaaaGreatDoor
open Go.RowKit
def ten : List UInt8 := [48, 49, 50, 51, 52, 53, 54, 55, 56, 57]
def isdig (c : UInt8) : Bool := decide (48 ≤ c.toNat) && decide (c.toNat ≤ 57)
theorem ten_contains (c : UInt8) : ten.contains c = isdig c := by
  have h : ∀ n : Fin 256, ten.contains (UInt8.ofNat n.val) = isdig (UInt8.ofNat n.val) := by decide +kernel
  have := h ⟨c.toNat, c.toNat_lt⟩
  simpa using this
theorem dropWhile_nil {α : Type} (p : α → Bool) : ∀ l : List α, l.dropWhile p = [] ↔ ∀ x ∈ l, p x = true
  | [] => by simp
  | a :: l => by
    rw [List.dropWhile_cons]
    cases h : p a
    · simp [h]
    · simp [h, dropWhile_nil p l]
theorem dropWhile_head {α : Type} (p : α → Bool) : ∀ l : List α, l.dropWhile p ≠ [] → ∃ x ∈ l.dropWhile p, p x = false
  | [], h => absurd rfl h
  | a :: l, h => by
    rw [List.dropWhile_cons] at h ⊢
    cases hp : p a
    · exact ⟨a, by simp, hp⟩
    · simp only [hp, if_true] at h ⊢
      exact dropWhile_head p l h
theorem trimS_nil (l : List UInt8) : (Lib.trimS l ten).isEmpty = l.all isdig := by
  have e : (fun c => ten.contains c) = isdig := funext ten_contains
  unfold Lib.trimS Lib.trimLeftS Lib.trimRightS
  rw [e]
  cases h : l.all isdig
  · rw [List.isEmpty_eq_false_iff]
    intro hn
    rw [dropWhile_nil] at hn
    have h1 : l.reverse.dropWhile isdig ≠ [] := by
      intro h2
      rw [dropWhile_nil] at h2
      have : l.all isdig = true := List.all_eq_true.2 fun x hx => h2 x (List.mem_reverse.2 hx)
      rw [this] at h; cases h
    obtain ⟨x, hx, hp⟩ := dropWhile_head isdig _ h1
    have := hn x (List.mem_reverse.2 hx)
    rw [hp] at this; cases this
  · have : l.reverse.dropWhile isdig = [] := by
      rw [dropWhile_nil]
      intro x hx
      exact List.all_eq_true.1 h x (List.mem_reverse.1 hx)
    rw [this]; rfl
/-- Some digits, at most so many. -/
def digs (l : List UInt8) (most : Nat) : Bool := decide (1 ≤ l.length) && decide (l.length ≤ most) && l.all isdig
theorem trim_any (W : World) (s : ByteArray) (hs : s.size ≤ 140737488355328) : Calls Tryz.prog 119 #[.string s, .string ⟨#[48, 49, 50, 51, 52, 53, 54, 55, 56, 57]⟩] W fun e W' => e = .returned (.string ⟨(Lib.trimS s.data.toList ten).toArray⟩) ∧ Below W.heap.size W W' :=
  Any.strings_Trim_laid Tryz.lays160 (by kernel_rfl) s ⟨#[48, 49, 50, 51, 52, 53, 54, 55, 56, 57]⟩ W (by omega) (by decide) (by
    intro j b h
    have hm : b ∈ ten := List.mem_of_getElem? h
    have : ∀ x ∈ ten, x.toNat < 128 := by decide
    exact this b hm)
set_option maxRecDepth 100000 in
set_option maxHeartbeats 800000 in
theorem digits_any (W : World) (s : ByteArray) (most : Nat) (hs : s.size ≤ 140737488355328) (_hm : most ≤ 9) : Calls Tryz.prog 91 #[.string s, .int .i64 most] W fun e W' => e = .returned (.bool (digs s.data.toList most)) ∧ Below W.heap.size W W' := by
  obtain ⟨b, hb⟩ : ∃ b, b = digs s.data.toList most := ⟨_, rfl⟩
  rw [← hb]
  have hz := ba_size s
  unfold digs at hb
  rw [← hz, ← trimS_nil] at hb
  have ht := trim_any W s hs
  obtain ⟨t, htt⟩ : ∃ t : ByteArray, t = ⟨(Lib.trimS s.data.toList ten).toArray⟩ := ⟨_, rfl⟩
  have hte : (Lib.trimS s.data.toList ten).isEmpty = t.toList.isEmpty := by rw [ByteArray.toList_eq, htt]
  rw [← htt] at ht
  rw [hte] at hb
  have HB := Lib.hid hb
  have T := Lib.hid ht
  have s0 : (0 : Int) ≤ (s.size : Int) := by omega
  have s1 : (s.size : Int) ≤ 140737488355328 := by omega
  clear hb ht htt hte hz hs
  by_cases h1 : 1 ≤ s.size
  · have d1 : decide ((1 : Int) ≤ (s.size : Int)) = true := by simp; omega
    have d1n : decide (1 ≤ s.size) = true := by simp; omega
    by_cases h2 : s.size ≤ most
    · have d2 : decide ((s.size : Int) ≤ (most : Int)) = true := by simp; omega
      have d2n : decide (s.size ≤ most) = true := by simp; omega
      clear h1 h2 _hm
      go_enter Tryz.func91, Tryz.ntmps91
      go_wp2_with (go_at_call 119; refine T.out.mono ?_; rintro e w' ⟨rfl, hb⟩; have B1 := Lib.hid hb; clear hb)
      go_ret
      exact ⟨by rw [HB.out, d1n, d2n]; rfl, B1.out⟩
    · have d2 : decide ((s.size : Int) ≤ (most : Int)) = false := decide_eq_false (by omega)
      have d2n : decide (s.size ≤ most) = false := decide_eq_false h2
      clear h1 h2 _hm
      go_enter Tryz.func91, Tryz.ntmps91
      go_wp2_with fail
      go_ret
      exact ⟨by rw [HB.out, d1n, d2n]; rfl, Below.refl _ _⟩
  · have d1 : decide ((1 : Int) ≤ (s.size : Int)) = false := decide_eq_false (by omega)
    have d1n : decide (1 ≤ s.size) = false := decide_eq_false h1
    clear h1 _hm
    go_enter Tryz.func91, Tryz.ntmps91
    go_wp2_with fail
    go_ret
    exact ⟨by rw [HB.out, d1n]; rfl, Below.refl _ _⟩
end Go.Proofs.YtmnndehoopmmaaaGreatDoor
