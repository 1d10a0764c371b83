/- Names of entries: which may be; the program's and the document's answer. -/
import Derived.Test.YtpbnigpdpkfpaaaGreatDoorP4x
import Derived.Test.YtpbnigpdpkfpaaaGreatDoorP5x
import Derived.WalkKit
import Derived.Deep.QuietTactic
namespace Go.Proofs.YtpbnigpdpkfpaaaGreatDoor
open Go.RowKit
theorem letter_ints (c : UInt8) : letterB c = (decide (97 ≤ ub c) && decide (ub c ≤ 122) || (decide (48 ≤ ub c) && decide (ub c ≤ 57)) || decide (ub c = 46) || decide (ub c = 45) || decide (ub c = 95)) := by
  have e : ∀ k : Fin 256, letterB (UInt8.ofNat k.val) = (decide (97 ≤ ub (UInt8.ofNat k.val)) && decide (ub (UInt8.ofNat k.val) ≤ 122) || (decide (48 ≤ ub (UInt8.ofNat k.val)) && decide (ub (UInt8.ofNat k.val) ≤ 57)) || decide (ub (UInt8.ofNat k.val) = 46) || decide (ub (UInt8.ofNat k.val) = 45) || decide (ub (UInt8.ofNat k.val) = 95)) := by decide +kernel
  have := e ⟨c.toNat, c.toNat_lt⟩
  simpa using this
set_option maxHeartbeats 1600000 in
theorem letter_any (W : World) (c : UInt8) : Calls Tryz.prog 173 #[.int .u8 (ub c)] W fun e W' => e = .returned (.bool (letterB c)) ∧ W' = W := by
  rw [letter_ints]
  have u0 := ub_nonneg c
  have u1 := ub_lt c
  generalize ub c = u at u0 u1 ⊢
  go_enter Tryz.func173, Tryz.ntmps173
  go_wp2
  all_goals
    go_ret
    refine ⟨?_, rfl⟩
    show Ending.returned (Value.bool _) = Ending.returned (Value.bool _)
    refine congrArg (fun b => Ending.returned (Value.bool b)) ?_
    refine Bool.eq_iff_iff.2 ?_
    simp only [Bool.or_eq_true, Bool.and_eq_true, decide_eq_true_eq, beq_iff_eq]
    first | done | omega
theorem nlet_any (W : World) (c : UInt8) : Calls Tryz.prog 172 #[.int .u8 (ub c)] W fun e W' => e = .returned (.bool (!letterB c)) ∧ W' = W := by
  have hc := letter_any W c
  have HC := Lib.hid hc
  generalize letterB c = b at HC ⊢
  generalize ub c = u at HC ⊢
  clear hc
  go_enter Tryz.func172, Tryz.ntmps172
  go_wp2_with (go_at_call 173; refine HC.out.mono ?_; rintro e w' ⟨rfl, hw⟩; replace hw := hw.symm; subst hw)
  go_ret
  exact ⟨rfl, rfl⟩
/-- What is asked of a name's length, and which it is not. -/
def nameE (n : Nat) (a b : Bool) : Bool := decide (1 ≤ n) && decide (n ≤ 20) && !a && !b
theorem nameB_eq (s : List UInt8) : nameB s = (s.all letterB && nameE s.length (s == [46]) (s == [46, 46])) := by
  unfold nameB nameE
  simp only [Bool.and_assoc]
set_option maxRecDepth 20000 in
set_option maxHeartbeats 3200000 in
theorem refName_any (W : World) (s : ByteArray) (l : List UInt8) (hl : l = s.data.toList) (hs : s.size ≤ 9223372036854775807) : Calls Tryz.prog 127 #[.string s] W fun e W' => e = .returned (.bool (nameB l)) ∧ W' = W := by
  rw [nameB_eq]
  have hst : s.toList = l := by rw [ByteArray.toList_eq, hl]
  have hll : l.length = s.size := by rw [hl, ← ba_size]
  have HL := Lib.hid hl
  have HLL := Lib.hid hll
  have s9 : (s.size : Int) ≤ 9223372036854775807 := by omega
  have HST := Lib.hid hst
  obtain ⟨a, ha⟩ : ∃ a : Bool, a = (l == [46]) := ⟨_, rfl⟩
  obtain ⟨b, hb⟩ : ∃ b : Bool, b = (l == [46, 46]) := ⟨_, rfl⟩
  have e1 : (s.toList == [46]) = a := by rw [hst, ha]
  have e2 : (s.toList == [46, 46]) = b := by rw [hst, hb]
  rw [← ha, ← hb, hll]
  clear hl hll hst hs ha hb
  have E1 := Lib.hid e1
  have E2 := Lib.hid e2
  clear e1 e2
  go_enter Tryz.func127, Tryz.ntmps127
  go_wp2
  go_loop [3] (fun i => ∃ k : Nat, k ≤ s.size ∧ i = .int .i64 k ∧ (l.take k).all letterB = true) (fun i => s.size - (intOf i).toNat)
  case atStart => exact ⟨0, by omega, rfl, rfl⟩
  case round =>
    obtain ⟨k, hk, rfl, hall⟩ := hrel
    by_cases hlt : k < s.size
    · have k1 : (k : Int) < (s.size : Int) := by omega
      have HA := Lib.hid hall
      have hix := fun w => run_byte w s l HL.out k hlt
      have hli := letter_ints (gb l k)
      have htk : l.take (k + 1) = l.take k ++ [gb l k] := by
        rw [List.take_add_one]
        have : k < l.length := by have := HLL.out; omega
        simp [gb, List.getD_eq_getElem?_getD, this]
      have HT := Lib.hid htk
      have HI := Lib.hid hli
      have u0 := ub_nonneg (gb l k)
      have u1 := ub_lt (gb l k)
      have HU := Lib.hid (rfl : gb l k = gb l k)
      generalize ub (gb l k) = u at hix HI u0 u1
      clear hall htk hli hlt
      clear HU
      have no : letterB (gb l k) = false → l.all letterB = false := fun h => by
        rw [Bool.eq_false_iff]
        intro hh
        have hkl : k < l.length := by have := HLL.out; omega
        have := List.all_eq_true.1 hh (gb l k) (by simp [gb, List.getD_eq_getElem?_getD, hkl])
        rw [h] at this
        cases this
      have yes : letterB (gb l k) = true → (l.take (k + 1)).all letterB = true := fun h => by
        rw [HT.out, List.all_append, HA.out]
        simp [h]
      have NO := Lib.hid no
      have YES := Lib.hid yes
      clear no yes
      go_wp2
      all_goals first
        | (go_ret
           refine ⟨?_, rfl⟩
           have hx : letterB (gb l k) = false := by
             rw [HI.out]
             simp only [Bool.or_eq_false_iff, Bool.and_eq_false_iff, decide_eq_false_iff_not]
             try simp only [bne_iff_ne, ne_eq] at *
             omega
           rw [NO.out hx]
           rfl)
        | (refine ⟨⟨k + 1, by omega, by go_num, YES.out ?_⟩, by simp [intOf]; omega⟩
           rw [HI.out]
           simp only [Bool.or_eq_true, Bool.and_eq_true, decide_eq_true_eq]
           try simp only [bne_eq_false_iff_eq] at *
           omega)
    · have : k = s.size := by omega
      subst this
      have hfull : l.all letterB = true := by
        rw [List.take_of_length_le (by rw [HLL.out]; exact Nat.le_refl _)] at hall
        exact hall
      have HF := Lib.hid hfull
      have e1 := E1.out
      have e2 := E2.out
      clear hall hfull hlt hk
      go_wp2
      all_goals
        go_ret
        refine ⟨?_, rfl⟩
        rw [HF.out]
        show Ending.returned (Value.bool _) = Ending.returned (Value.bool _)
        refine congrArg (fun b => Ending.returned (Value.bool b)) ?_
        unfold nameE
        rw [Bool.eq_iff_iff]
        simp only [Bool.true_and, Bool.and_eq_true, decide_eq_true_eq, Bool.not_true, Bool.not_false, Bool.not_eq_true']
        first | done | omega | (cases a <;> cases b <;> simp_all <;> omega)
/-- .. the program's: by the library's search. -/
theorem nameAny (l : List UInt8) : (l.take l.length).any (fun c => !letterB c) = !l.all letterB := by
  rw [List.take_length]
  exact (List.not_all_eq_any_not ..).symm
end Go.Proofs.YtpbnigpdpkfpaaaGreatDoor
