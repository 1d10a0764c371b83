/- strconv.ParseUint at base 16, of any text, inside the library: the number, or what is wrong. -/
import Derived.Test.YtpbnigpdpkfpaaaGreatDoorP3x
import Derived.Lib.AtoiAllMem
namespace Go.Proofs.YtpbnigpdpkfpaaaGreatDoor
open Go.RowKit
theorem or32_all : ∀ i : Fin 256, bits .or .u8 ((i : Nat) : Int) 32 = (((i : Nat) ||| 32 : Nat) : Int) := by decide +kernel
theorem or32 (x : UInt8) : bits .or .u8 (ub x) 32 = ((x.toNat ||| 32 : Nat) : Int) := or32_all ⟨x.toNat, x.toNat_lt⟩
theorem or32_lt (x : UInt8) : (x.toNat ||| 32) < 256 := Nat.or_lt_two_pow (n := 8) x.toNat_lt (by decide)
/-- A sign's number: a digit's, a letter's, great or small; 16: it is none. -/
def pd (c : UInt8) : Nat := if 48 ≤ c.toNat ∧ c.toNat ≤ 57 then c.toNat - 48 else if 97 ≤ (c.toNat ||| 32) ∧ (c.toNat ||| 32) ≤ 102 then (c.toNat ||| 32) - 87 else 16
/-- What is read on, behind a number. -/
def pu (acc : Nat) : List UInt8 → Lib.NumEnd Nat
  | [] => .ok acc
  | c :: r => if pd c < 16 then (if 1152921504606846976 ≤ acc then .range else pu (acc * 16 + pd c) r) else .syntax
def puB (l : List UInt8) : Lib.NumEnd Nat := if l = [] then .syntax else pu 0 l
theorem pcls (x : UInt8) : (48 ≤ x.toNat ∧ x.toNat ≤ 57 ∧ pd x = x.toNat - 48) ∨
    ((x.toNat < 48 ∨ 57 < x.toNat) ∧ 97 ≤ (x.toNat ||| 32) ∧ (x.toNat ||| 32) ≤ 102 ∧ pd x = (x.toNat ||| 32) - 87 ∧ x.toNat ≠ 95) ∨
    ((x.toNat < 48 ∨ 57 < x.toNat) ∧ 102 < (x.toNat ||| 32) ∧ (x.toNat ||| 32) ≤ 122 ∧ pd x = 16 ∧ x.toNat ≠ 95) ∨
    ((x.toNat < 48 ∨ 57 < x.toNat) ∧ ((x.toNat ||| 32) < 97 ∨ 122 < (x.toNat ||| 32)) ∧ pd x = 16) := by
  have h : ∀ i : Fin 256, (48 ≤ (i : Nat) ∧ (i : Nat) ≤ 57 ∧ pd (UInt8.ofNat i) = (i : Nat) - 48) ∨
    (((i : Nat) < 48 ∨ 57 < (i : Nat)) ∧ 97 ≤ ((i : Nat) ||| 32) ∧ ((i : Nat) ||| 32) ≤ 102 ∧ pd (UInt8.ofNat i) = ((i : Nat) ||| 32) - 87 ∧ (i : Nat) ≠ 95) ∨
    (((i : Nat) < 48 ∨ 57 < (i : Nat)) ∧ 102 < ((i : Nat) ||| 32) ∧ ((i : Nat) ||| 32) ≤ 122 ∧ pd (UInt8.ofNat i) = 16 ∧ (i : Nat) ≠ 95) ∨
    (((i : Nat) < 48 ∨ 57 < (i : Nat)) ∧ (((i : Nat) ||| 32) < 97 ∨ 122 < ((i : Nat) ||| 32)) ∧ pd (UInt8.ofNat i) = 16) := by decide +kernel
  have := h ⟨x.toNat, x.toNat_lt⟩
  simpa using this
theorem lower_any (w : World) (c : Int) : Calls Tryz.prog 253 #[.int .u8 c] w fun e w' => e = .returned (.int .u8 (bits .or .u8 c 32)) ∧ w' = w := by
  go_enter Tryz.func253, Tryz.ntmps253
  go_wp2
  go_ret
  exact ⟨rfl, rfl⟩
set_option maxRecDepth 100000 in
set_option maxHeartbeats 8000000 in
theorem puin_any (W : World) (s : ByteArray) (hs : s.size ≤ 140737488355328) : Calls Tryz.prog 215 #[.string s, .int .i64 16, .int .i64 64] W fun e W' => e = .returned (Lib.uintTuple 287 (puB s.data.toList)) ∧ Below W.heap.size W W' := by
  by_cases h0 : s.size = 0
  · have e0 : s = ⟨#[]⟩ := by
      apply ByteArray.ext
      exact Array.eq_empty_of_size_eq_zero h0
    subst e0
    go_enter Tryz.func215, Tryz.ntmps215
    go_wp2
    go_ret2
    exact ⟨rfl, Below.refl _ _⟩
  · obtain ⟨bs, hL⟩ : ∃ bs, bs = s.data.toList := ⟨_, rfl⟩
    have hLn : bs.length = s.size := by rw [hL]; exact (ba_size s).symm
    have hpB : puB s.data.toList = pu 0 bs := by
      rw [← hL, puB, if_neg]
      intro h
      rw [h] at hLn
      exact h0 hLn.symm
    have hne : s.toList.isEmpty = false := by
      rw [ByteArray.toList_eq, ← hL]
      cases bs with
      | nil => exact absurd hLn.symm h0
      | cons => rfl
    rw [hpB]
    obtain ⟨c, w1, hcv, hsrc, hbw, hsz1, hc⟩ := conv_bytes W s
    rw [← hL] at hsrc
    have B1 := Lib.hid hbw
    have C1 := Lib.hid hcv
    have hB : ∀ j, j < s.size → w1.cell? ⟨W.heap.size, j, none⟩ = some (.int .u8 (bs.getD j 0).toNat) := fun j hj => by
      obtain ⟨ad, e, hc⟩ := hsrc.2.1 (by omega)
      obtain rfl := Option.some.inj e
      have := hc j _ (Bs_at bs j (by rw [hLn]; exact hj))
      have ha : (⟨W.heap.size, 0, none⟩ : Addr).add j = ⟨W.heap.size, j, none⟩ := by unfold Addr.add; split <;> simp_all
      rw [ha] at this
      rw [this]
      rfl
    have hmv : IntKind.u64.wrap (IntKind.u64.wrap 18446744073709551616 - 1) = 18446744073709551615 := by
      rw [IntKind.wrap_u64, IntKind.wrap_u64]
      decide
    have hcs : (s.size : Int) ≤ (c : Int) := by omega
    have HS := Lib.hid hs
    clear hsrc hbw hcv hsz1 hL h0 hpB hs
    go_enter Tryz.func215, Tryz.ntmps215
    go_upto_region 36 with (first
      | (refine wpl_convw rfl 9 53 _ rfl _ rfl _ w1 C1.out ?_))
    go_loop [12, 13, 101] (fun vu vn vi => ∃ (k acc : Nat) (a : Int), vu = .bool false ∧ vn = .int .u64 a ∧ vi = .int .i64 k ∧ k ≤ s.size ∧ Hid (a = (acc : Int) ∧ acc < 18446744073709551616 ∧ pu 0 bs = pu acc (bs.drop k))) (fun _ _ vi => s.size - (intOf vi).toNat)
    case atStart => exact ⟨0, 0, 0, rfl, rfl, rfl, by omega, Lib.hid ⟨rfl, by omega, rfl⟩⟩
    case round =>
      obtain ⟨k, acc, a, rfl, rfl, rfl, hk, hh⟩ := hrel
      obtain ⟨ha, hacc, hdec⟩ := hh.out
      clear hh
      have a0 : 0 ≤ a := by omega
      have a1 : a < 18446744073709551616 := by omega
      have hs := HS.out
      by_cases hkn : k < s.size
      · have hc := hB k hkn
        have hdrop : bs.drop k = bs[k]'(by omega) :: bs.drop (k + 1) := List.drop_eq_getElem_cons (by omega)
        have hget : bs.getD k 0 = bs[k]'(by omega) := by simp [List.getD, List.getElem?_eq_getElem (show k < bs.length by omega)]
        rw [hdrop] at hdec
        rw [hget] at hc
        generalize bs[k]'(by omega) = x at hc hdec
        have hor := or32 x
        have hol := or32_lt x
        have hcl := pcls x
        obtain ⟨u, hu⟩ : ∃ u : Int, u = ((x.toNat ||| 32 : Nat) : Int) := ⟨_, rfl⟩
        obtain ⟨b, hb⟩ : ∃ b : Int, b = (x.toNat : Int) := ⟨_, rfl⟩
        have hlo : ∀ w, Calls Tryz.prog 253 #[.int .u8 b] w fun e w' => e = .returned (.int .u8 u) ∧ w' = w := fun w => by
          rw [hu, ← hor, hb]
          exact lower_any w _
        have HLO := Lib.hid hlo
        rw [← hb] at hc
        have b0 : 0 ≤ b := by omega
        have b1 : b < 256 := by have := x.toNat_lt; omega
        have u0 : 0 ≤ u := by omega
        have u1 : u < 256 := by omega
        have HLn := Lib.hid hLn
        clear hB hdrop hget hor hol hlo hLn
        rcases hcl with ⟨c1, c2, c3⟩ | ⟨c1, c2, c3, c4, c5⟩ | ⟨c1, c2, c3, c4, c5⟩ | ⟨c1, c2, c3⟩
        · have g1 : (b == 95) = false := by rw [beq_eq_false_iff_ne]; omega
          have g2 : (48 : Int) ≤ b := by omega
          have g3 : b ≤ 57 := by omega
          by_cases hcut : 1152921504606846976 ≤ acc
          · have hF : pu acc (x :: bs.drop (k + 1)) = .range := by rw [pu, if_pos (by omega), if_pos hcut]
            rw [hF] at hdec
            have icut : 1152921504606846976 ≤ a := by omega
            have HD := Lib.hid hdec
            clear hcut hacc hF ha hdec c1 c2 c3 hu hb
            go_wp2
            go_ret2
            exact ⟨by rw [HD.out]; rfl, B1.out⟩
          · have hF : pu acc (x :: bs.drop (k + 1)) = pu (acc * 16 + pd x) (bs.drop (k + 1)) := by rw [pu, if_pos (by omega), if_neg hcut]
            have HN : Hid (a * 16 + (b - 48) = ((acc * 16 + pd x : Nat) : Int) ∧ acc * 16 + pd x < 18446744073709551616 ∧ pu 0 bs = pu (acc * 16 + pd x) (bs.drop (k + 1))) := Lib.hid ⟨by omega, by omega, hdec.trans hF⟩
            have icut : a < 1152921504606846976 := by omega
            clear hcut hacc hF hdec ha c1 c2 c3 hu hb a1
            go_wp2
            refine ⟨⟨k + 1, acc * 16 + pd x, a * 16 + (b - 48), rfl, (by first | rfl | (congr 1; omega)), (by first | rfl | (congr 1; omega)), by omega, HN⟩, by simp [intOf]; omega⟩
        · have g1 : (b == 95) = false := by rw [beq_eq_false_iff_ne]; omega
          have g2 : (97 : Int) ≤ u := by omega
          have g3 : u ≤ 102 := by omega
          have g4 : u ≤ 122 := by omega
          by_cases hcut : 1152921504606846976 ≤ acc
          · have hF : pu acc (x :: bs.drop (k + 1)) = .range := by rw [pu, if_pos (by omega), if_pos hcut]
            rw [hF] at hdec
            have icut : 1152921504606846976 ≤ a := by omega
            have HD := Lib.hid hdec
            have hd : b < 48 ∨ 57 < b := by omega
            clear hcut hacc hF ha hdec c1 c2 c3 c4 c5 hu hb
            rcases hd with hd | hd
            all_goals
              go_wp2_with (go_at_call 253; refine (HLO.out _).mono ?_; rintro e w' ⟨rfl, hw⟩; replace hw := hw.symm; subst hw)
              go_ret2
              exact ⟨by rw [HD.out]; rfl, B1.out⟩
          · have hF : pu acc (x :: bs.drop (k + 1)) = pu (acc * 16 + pd x) (bs.drop (k + 1)) := by rw [pu, if_pos (by omega), if_neg hcut]
            have HN : Hid (a * 16 + (u - 87) = ((acc * 16 + pd x : Nat) : Int) ∧ acc * 16 + pd x < 18446744073709551616 ∧ pu 0 bs = pu (acc * 16 + pd x) (bs.drop (k + 1))) := Lib.hid ⟨by omega, by omega, hdec.trans hF⟩
            have icut : a < 1152921504606846976 := by omega
            have hd : b < 48 ∨ 57 < b := by omega
            clear hcut hacc hF hdec ha c1 c2 c3 c4 c5 hu hb a1
            rcases hd with hd | hd
            all_goals
              go_wp2_with (go_at_call 253; refine (HLO.out _).mono ?_; rintro e w' ⟨rfl, hw⟩; replace hw := hw.symm; subst hw)
              refine ⟨⟨k + 1, acc * 16 + pd x, a * 16 + (u - 87), rfl, (by first | rfl | (congr 1; omega)), (by first | rfl | (congr 1; omega)), by omega, HN⟩, by simp [intOf]; omega⟩
        · have hF : pu acc (x :: bs.drop (k + 1)) = .syntax := by rw [pu, if_neg (by omega)]
          rw [hF] at hdec
          have g1 : (b == 95) = false := by rw [beq_eq_false_iff_ne]; omega
          have g2 : (97 : Int) ≤ u := by omega
          have g3 : 102 < u := by omega
          have g4 : u ≤ 122 := by omega
          have HD := Lib.hid hdec
          have hd : b < 48 ∨ 57 < b := by omega
          clear hacc hF ha hdec c1 c2 c3 c4 c5 hu hb
          rcases hd with hd | hd
          all_goals
            go_wp2_with (go_at_call 253; refine (HLO.out _).mono ?_; rintro e w' ⟨rfl, hw⟩; replace hw := hw.symm; subst hw)
            go_ret2
            exact ⟨by rw [HD.out]; rfl, B1.out⟩
        · have hF : pu acc (x :: bs.drop (k + 1)) = .syntax := by rw [pu, if_neg (by omega)]
          rw [hF] at hdec
          have HD := Lib.hid hdec
          have hd : b < 48 ∨ 57 < b := by omega
          have he : u < 97 ∨ 122 < u := by omega
          clear hacc hF ha hdec c1 c2 c3 hu hb
          rcases Decidable.em (b = 95) with h95 | h95
          · have g1 : (b == 95) = true := by rw [beq_iff_eq]; exact h95
            clear h95
            rcases hd with hd | hd <;> rcases he with he | he
            all_goals
              go_wp2_with (go_at_call 253; refine (HLO.out _).mono ?_; rintro e w' ⟨rfl, hw⟩; replace hw := hw.symm; subst hw)
              go_ret2
              exact ⟨by rw [HD.out]; rfl, B1.out⟩
          · have g1 : (b == 95) = false := by rw [beq_eq_false_iff_ne]; exact h95
            clear h95
            rcases hd with hd | hd <;> rcases he with he | he
            all_goals
              go_wp2_with (go_at_call 253; refine (HLO.out _).mono ?_; rintro e w' ⟨rfl, hw⟩; replace hw := hw.symm; subst hw)
              go_ret2
              exact ⟨by rw [HD.out]; rfl, B1.out⟩
      · have hkk : k = s.size := by omega
        subst hkk
        have hF : pu acc (bs.drop s.size) = .ok acc := by rw [List.drop_eq_nil_of_le (by omega)]; rfl
        rw [hF] at hdec
        have HD : Hid (Lib.uintTuple 287 (pu 0 bs) = .tuple #[.int .u64 a, .nilIface]) := Lib.hid (by rw [hdec, ha]; rfl)
        clear hacc hF a0 a1 ha hdec
        go_wp2
        go_ret2
        exact ⟨by rw [HD.out]; rfl, B1.out⟩
end Go.Proofs.YtpbnigpdpkfpaaaGreatDoor
