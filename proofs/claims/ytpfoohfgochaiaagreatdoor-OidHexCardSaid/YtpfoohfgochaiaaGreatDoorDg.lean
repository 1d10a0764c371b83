/- when.digits: is a text some digits? -/
import Derived.Test.YtpfoohfgochaiaaGreatDoorWp
import Derived.Shelf.Strings.SlTrimAscii
namespace Go.Proofs.YtpfoohfgochaiaaGreatDoor
open Go.RowKit
def ten : List UInt8 := [48, 49, 50, 51, 52, 53, 54, 55, 56, 57]
def isdig (c : UInt8) : Bool := decide (48 ≤ c.toNat) && decide (c.toNat ≤ 57)
theorem ten_contains (c : UInt8) : ten.contains c = isdig c := by
  have h : ∀ n : Fin 256, ten.contains (UInt8.ofNat n.val) = isdig (UInt8.ofNat n.val) := by decide +kernel
  have := h ⟨c.toNat, c.toNat_lt⟩
  simpa using this
theorem dropWhile_nil {α : Type} (p : α → Bool) : ∀ l : List α, l.dropWhile p = [] ↔ ∀ x ∈ l, p x = true
  | [] => by simp
  | a :: l => by
    rw [List.dropWhile_cons]
    cases h : p a
    · simp [h]
    · simp [h, dropWhile_nil p l]
theorem dropWhile_head {α : Type} (p : α → Bool) : ∀ l : List α, l.dropWhile p ≠ [] → ∃ x ∈ l.dropWhile p, p x = false
  | [], h => absurd rfl h
  | a :: l, h => by
    rw [List.dropWhile_cons] at h ⊢
    cases hp : p a
    · exact ⟨a, by simp, hp⟩
    · simp only [hp, if_true] at h ⊢
      exact dropWhile_head p l h
theorem trimS_nil (l : List UInt8) : (Lib.trimS l ten).isEmpty = l.all isdig := by
  have e : (fun c => ten.contains c) = isdig := funext ten_contains
  unfold Lib.trimS Lib.trimLeftS Lib.trimRightS
  rw [e]
  cases h : l.all isdig
  · rw [List.isEmpty_eq_false_iff]
    intro hn
    rw [dropWhile_nil] at hn
    have h1 : l.reverse.dropWhile isdig ≠ [] := by
      intro h2
      rw [dropWhile_nil] at h2
      have : l.all isdig = true := List.all_eq_true.2 fun x hx => h2 x (List.mem_reverse.2 hx)
      rw [this] at h; cases h
    obtain ⟨x, hx, hp⟩ := dropWhile_head isdig _ h1
    have := hn x (List.mem_reverse.2 hx)
    rw [hp] at this; cases this
  · have : l.reverse.dropWhile isdig = [] := by
      rw [dropWhile_nil]
      intro x hx
      exact List.all_eq_true.1 h x (List.mem_reverse.1 hx)
    rw [this]; rfl
/-- Some digits, at most so many. -/
def digs (l : List UInt8) (most : Nat) : Bool := decide (1 ≤ l.length) && decide (l.length ≤ most) && l.all isdig
theorem trim_any (W : World) (s : ByteArray) (hs : s.size ≤ 140737488355328) : Calls Tryz.prog 127 #[.string s, .string ⟨#[48, 49, 50, 51, 52, 53, 54, 55, 56, 57]⟩] W fun e W' => e = .returned (.string ⟨(Lib.trimS s.data.toList ten).toArray⟩) ∧ Below W.heap.size W W' :=
  Any.strings_Trim_laid Tryz.lays160 (by kernel_rfl) s ⟨#[48, 49, 50, 51, 52, 53, 54, 55, 56, 57]⟩ W (by omega) (by decide) (by
    intro j b h
    have hm : b ∈ ten := List.mem_of_getElem? h
    have : ∀ x ∈ ten, x.toNat < 128 := by decide
    exact this b hm)
set_option maxRecDepth 100000 in
set_option maxHeartbeats 800000 in
theorem digits_any (W : World) (s : ByteArray) (most : Nat) (hs : s.size ≤ 140737488355328) (_hm : most ≤ 9) : Calls Tryz.prog 97 #[.string s, .int .i64 most] W fun e W' => e = .returned (.bool (digs s.data.toList most)) ∧ Below W.heap.size W W' := by
  obtain ⟨b, hb⟩ : ∃ b, b = digs s.data.toList most := ⟨_, rfl⟩
  rw [← hb]
  have hz := ba_size s
  unfold digs at hb
  rw [← hz, ← trimS_nil] at hb
  have ht := trim_any W s hs
  obtain ⟨t, htt⟩ : ∃ t : ByteArray, t = ⟨(Lib.trimS s.data.toList ten).toArray⟩ := ⟨_, rfl⟩
  have hte : (Lib.trimS s.data.toList ten).isEmpty = t.toList.isEmpty := by rw [ByteArray.toList_eq, htt]
  rw [← htt] at ht
  rw [hte] at hb
  have HB := Lib.hid hb
  have T := Lib.hid ht
  have s0 : (0 : Int) ≤ (s.size : Int) := by omega
  have s1 : (s.size : Int) ≤ 140737488355328 := by omega
  clear hb ht htt hte hz hs
  by_cases h1 : 1 ≤ s.size
  · have d1 : decide ((1 : Int) ≤ (s.size : Int)) = true := by simp; omega
    have d1n : decide (1 ≤ s.size) = true := by simp; omega
    by_cases h2 : s.size ≤ most
    · have d2 : decide ((s.size : Int) ≤ (most : Int)) = true := by simp; omega
      have d2n : decide (s.size ≤ most) = true := by simp; omega
      clear h1 h2 _hm
      go_enter Tryz.func97, Tryz.ntmps97
      go_wp2_with (go_at_call 127; refine T.out.mono ?_; rintro e w' ⟨rfl, hb⟩; have B1 := Lib.hid hb; clear hb)
      go_ret
      exact ⟨by rw [HB.out, d1n, d2n]; rfl, B1.out⟩
    · have d2 : decide ((s.size : Int) ≤ (most : Int)) = false := decide_eq_false (by omega)
      have d2n : decide (s.size ≤ most) = false := decide_eq_false h2
      clear h1 h2 _hm
      go_enter Tryz.func97, Tryz.ntmps97
      go_wp2_with fail
      go_ret
      exact ⟨by rw [HB.out, d1n, d2n]; rfl, Below.refl _ _⟩
  · have d1 : decide ((1 : Int) ≤ (s.size : Int)) = false := decide_eq_false (by omega)
    have d1n : decide (1 ≤ s.size) = false := decide_eq_false h1
    clear h1 _hm
    go_enter Tryz.func97, Tryz.ntmps97
    go_wp2_with fail
    go_ret
    exact ⟨by rw [HB.out, d1n]; rfl, Below.refl _ _⟩
end Go.Proofs.YtpfoohfgochaiaaGreatDoor
