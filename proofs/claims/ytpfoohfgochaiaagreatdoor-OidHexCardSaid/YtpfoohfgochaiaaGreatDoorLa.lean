/- line: four digits; Put, Flush, Delim. -/
import Derived.Test.YtpfoohfgochaiaaGreatDoorOi
import Derived.Test.YtpfoohfgochaiaaGreatDoorTx
namespace Go.Proofs.YtpfoohfgochaiaaGreatDoor
open Go.RowKit
/-- Four digits. -/
def hx4 (n : Nat) : List UInt8 := [hexd (n / 4096 % 16), hexd (n / 256 % 16), hexd (n / 16 % 16), hexd (n % 16)]
theorem hexd_0 : hexd 0 = 48 := rfl
theorem hx4_eq (n : Nat) (h : n < 65536) : List.drop (hexS n).length [48, 48, 48, 48] ++ hexS n = hx4 n := by
  unfold hx4
  rcases Nat.lt_or_ge n 16 with h1 | h1
  · rw [hexS_lt h1, show n / 4096 % 16 = 0 by omega, show n / 256 % 16 = 0 by omega, show n / 16 % 16 = 0 by omega, show n % 16 = n by omega, hexd_0]
    rfl
  rw [hexS_ge h1]
  rcases Nat.lt_or_ge n 256 with h2 | h2
  · rw [hexS_lt (by omega : n / 16 < 16), show n / 4096 % 16 = 0 by omega, show n / 256 % 16 = 0 by omega, show n / 16 % 16 = n / 16 by omega, hexd_0]
    rfl
  rw [hexS_ge (by omega : 16 ≤ n / 16)]
  rcases Nat.lt_or_ge n 4096 with h3 | h3
  · rw [hexS_lt (by omega : n / 16 / 16 < 16), show n / 4096 % 16 = 0 by omega, show n / 256 % 16 = n / 16 / 16 by omega, hexd_0]
    rfl
  rw [hexS_ge (by omega : 16 ≤ n / 16 / 16), hexS_lt (by omega : n / 16 / 16 / 16 < 16), show n / 4096 % 16 = n / 16 / 16 / 16 by omega, show n / 256 % 16 = n / 16 / 16 % 16 by omega]
  rfl
theorem hexS_le4 (n : Nat) (h : n < 65536) : (hexS n).length ≤ 4 := hexS_len 3 n (by simpa using h)
set_option maxHeartbeats 400000 in
theorem head4_any (W : World) (n : Nat) (h : n < 65536) (hT : Deb W) : Calls Tryz.prog 100 #[.int .i64 n] W fun e W' => e = .returned (.string ⟨(hx4 n).toArray⟩) ∧ Below W.heap.size W W' := by
  have hl := hexS_le4 n h
  have he := hx4_eq n h
  obtain ⟨s, hs⟩ : ∃ s : ByteArray, s = ⟨(hexS n).toArray⟩ := ⟨_, rfl⟩
  have hz : s.size ≤ 4 := by rw [hs]; exact hl
  have HT := Lib.hid hT
  have HS := Lib.hid hs
  have HE := Lib.hid he
  clear hT hs he hl
  have hz1 : (s.size : Int) ≤ 4 := by omega
  have hz2 : (0 : Int) ≤ (s.size : Int) := by omega
  go_enter Tryz.func100, Tryz.ntmps100
  go_wp2_with (go_at_call 130; refine (fint_16 _ n (by omega) HT.out).mono ?_; rintro e w' ⟨he, hb⟩; rw [← HS.out] at he; subst he; have B := Lib.hid hb; clear hb)
  go_ret
  refine ⟨?_, B.out⟩
  have e : ({ data := #[48, 48, 48, 48] } : ByteArray).extract s.size 4 ++ s = ⟨(hx4 n).toArray⟩ := by
    refine ba_ext ?_
    rw [ba_append, ba_extract, ← HE.out, HS.out]
    rfl
  rw [← e]
  rfl
theorem flush_any (W : World) (hT : Deb W) : Calls Tryz.prog 47 #[] W fun e W' => e = .returned (.string ⟨#[48, 48, 48, 48]⟩) ∧ Below W.heap.size W W' := by
  have HT := Lib.hid hT
  clear hT
  go_enter Tryz.func47, Tryz.ntmps47
  go_wp2_with (go_at_call 100; refine (head4_any _ 0 (by omega) HT.out).mono ?_; rintro e w' ⟨rfl, hb⟩; have B := Lib.hid hb; clear hb)
  go_ret
  exact ⟨rfl, B.out⟩
theorem delim_any (W : World) (hT : Deb W) : Calls Tryz.prog 46 #[] W fun e W' => e = .returned (.string ⟨#[48, 48, 48, 49]⟩) ∧ Below W.heap.size W W' := by
  have HT := Lib.hid hT
  clear hT
  go_enter Tryz.func46, Tryz.ntmps46
  go_wp2_with (go_at_call 100; refine (head4_any _ 1 (by omega) HT.out).mono ?_; rintro e w' ⟨rfl, hb⟩; have B := Lib.hid hb; clear hb)
  go_ret
  exact ⟨rfl, B.out⟩
/-- A line, framed; false where it may not be. -/
def putL (l : List UInt8) : List UInt8 × Bool := if 1 ≤ l.length ∧ l.length ≤ 1000 then (hx4 (l.length + 4) ++ l, true) else ([], false)
set_option maxHeartbeats 400000 in
theorem lput_any (W : World) (s : ByteArray) (hs : s.size ≤ 140737488355328) (hT : Deb W) : Calls Tryz.prog 45 #[.string s] W fun e W' => e = .returned (.tuple #[.string ⟨(putL s.data.toList).1.toArray⟩, .bool (putL s.data.toList).2]) ∧ Below W.heap.size W W' := by
  have hz := ba_size s
  obtain ⟨p, hp⟩ : ∃ p : ByteArray, p = ⟨(putL s.data.toList).1.toArray⟩ := ⟨_, rfl⟩
  rw [← hp]
  have HT := Lib.hid hT
  have HZ := Lib.hid hz
  have HP := Lib.hid hp
  clear hT hz hp
  by_cases h0 : s.size = 0
  · have e1 : s.toList = [] := by
      rw [ByteArray.toList_eq]
      apply List.eq_nil_of_length_eq_zero; rw [← HZ.out]; exact h0
    have h2 : (putL s.data.toList) = ([], false) := by unfold putL; rw [if_neg (by have := HZ.out; omega)]
    clear h0 hs
    go_enter Tryz.func45, Tryz.ntmps45
    go_wp2
    go_ret2
    exact ⟨by rw [HP.out, h2]; rfl, Below.refl _ _⟩
  · have e1 : ¬ s.toList = [] := by
      rw [ByteArray.toList_eq]
      intro e
      rw [HZ.out, e] at h0
      exact h0 rfl
    by_cases h1 : s.size ≤ 1000
    · have l1 : (s.size : Int) ≤ 1000 := by omega
      have l0 : (0 : Int) ≤ (s.size : Int) := by omega
      have l2 : ¬ 1000 < s.size := by omega
      have h2 : (putL s.data.toList) = (hx4 (s.size + 4) ++ s.data.toList, true) := by unfold putL; rw [if_pos (by have := HZ.out; omega), HZ.out]
      obtain ⟨q, hq⟩ : ∃ q : ByteArray, q = ⟨(hx4 (s.size + 4)).toArray⟩ := ⟨_, rfl⟩
      have hq4 : q.size ≤ 4 := by rw [hq]; exact Nat.le_refl 4
      have h3 : p = q ++ s := by
        refine ba_ext ?_
        rw [HP.out, h2, ba_append, hq]
      have h4 : (putL s.data.toList).2 = true := by rw [h2]
      have H3 := Lib.hid h3
      have H4 := Lib.hid h4
      have hc : ((s.size : Int) + 4) = ((s.size + 4 : Nat) : Int) := by omega
      clear h2 h3 h4
      have c4 := fun w h => head4_any w (s.size + 4) (by omega) h
      rw [← hc, ← hq] at c4
      have e2 : s.toList.isEmpty = false := by simpa using e1
      have e3 : decide (1000 < (s.size : Int)) = false := by simp; omega
      clear hc hs hq
      go_enter Tryz.func45, Tryz.ntmps45
      go_wp2_with (go_at_call 100; refine (c4 _ HT.out).mono ?_; rintro e w' ⟨rfl, hb⟩; have B := Lib.hid hb; clear hb)
      go_ret2
      exact ⟨by rw [H3.out, H4.out]; rfl, B.out⟩
    · have l2 : 1000 < s.size := by omega
      have h2 : (putL s.data.toList) = ([], false) := by unfold putL; rw [if_neg (by have := HZ.out; omega)]
      have H2 := Lib.hid h2
      clear h2 h0 hs h1
      go_enter Tryz.func45, Tryz.ntmps45
      go_wp2
      go_ret2
      exact ⟨by rw [HP.out, H2.out]; rfl, Below.refl _ _⟩
end Go.Proofs.YtpfoohfgochaiaaGreatDoor
