/- The document's answer for a limit: Number. -/
import Derived.Test.YtpfoohfgochaiaaGreatDoorSzp
import Derived.Test.YtpfoohfgochaiaaGreatDoorCm
import Derived.Deep.QuietTactic
import Derived.BigQuiet
namespace Go.Proofs.YtpfoohfgochaiaaGreatDoor
open Go.RowKit
/-- Digits, at most six, no nought ahead but 0 itself. -/
def numB (l : List UInt8) : Bool := digs l 6 && !(decide (1 < l.length) && l.headD 0 == 48)
theorem numB_digs {l : List UInt8} (h : numB l = true) : digs l 6 = true := by
  unfold numB at h
  rw [Bool.and_eq_true] at h
  exact h.1
theorem numB_not {l : List UInt8} (h : digs l 6 = false) : numB l = false := by unfold numB; rw [h]; rfl
theorem run_byteZ (W : World) (t : ByteArray) (bs : List UInt8) (hb : bs = t.data.toList) (j : Nat) (z : Int) (hz : z = (j : Int)) (h : j < t.size) : (Instr.index 9 (.string t) (.int .i64 z)).run Tryz.prog W = .ok (.int .u8 (ub (gb bs j))) W := by
  subst hz
  exact run_byte W t bs hb j h
theorem gb_head (l : List UInt8) : gb l 0 = l.headD 0 := by cases l <;> rfl
set_option maxRecDepth 100000 in
set_option maxHeartbeats 1600000 in
theorem num6_any (W : World) (s : ByteArray) (l : List UInt8) (hl : l = s.data.toList) (hs : s.size ≤ 1048576) : Calls Tryz.prog 99 #[.string s, .int .i64 6] W fun e W' =>
    ∃ z : Int, e = .returned (.tuple #[.int .i64 z, .bool (numB l)]) ∧ (numB l = true → z = (decv l : Int)) ∧ ∃ m, W' = W.drewN m := by
  have HL := Lib.hid hl
  have hll : l.length = s.size := by rw [hl, ← ba_size]
  have HZ := Lib.hid hll
  have hst : s.toList = l := by rw [ByteArray.toList_eq, hl]
  have HST := Lib.hid hst
  clear hl hll hst
  have l0 : (0 : Int) ≤ (s.size : Int) := by omega
  have l9 : (s.size : Int) ≤ 1048576 := by omega
  go_enter Tryz.func99, Tryz.ntmps99
  go_wp2
  go_loop [6, 7] (fun v i => ∃ k : Nat, k ≤ s.size ∧ k ≤ 9 ∧ i = .int .i64 k ∧ v = .int .i64 (decv (l.take k)) ∧ (l.take k).all isdig = true) (fun _ i => 9 - (intOf i).toNat)
  case atStart => exact ⟨0, by omega, by omega, rfl, rfl, rfl⟩
  case round =>
    obtain ⟨k, hk, hk9, rfl, rfl, ha⟩ := hrel
    have hv := decv_lt (l.take k) ha (by rw [List.length_take]; omega)
    obtain ⟨v, hvv⟩ : ∃ v, v = decv (l.take k) := ⟨_, rfl⟩
    rw [← hvv] at hv
    rw [← hvv]
    have HV := Lib.hid hvv
    have HA := Lib.hid ha
    clear hvv ha
    by_cases hks : k < s.size ∧ k < 9
    · obtain ⟨k1, k2⟩ := hks
      have k3 : (k : Int) < (s.size : Int) := by omega
      have k4 : (k : Int) < 9 := by omega
      have hix := fun w => run_byte w s l HL.out k k1
      have u0 := ub_nonneg (gb l k)
      have u1 := ub_lt (gb l k)
      obtain ⟨x, hx⟩ : ∃ x, x = gb l k := ⟨_, rfl⟩
      rw [← hx] at hix u0 u1
      have HX := Lib.hid hx
      clear hx
      obtain ⟨u, hu⟩ : ∃ u, u = ub x := ⟨_, rfl⟩
      rw [← hu] at hix u0 u1
      have HU := Lib.hid hu
      clear hu
      by_cases hd : 48 ≤ u ∧ u ≤ 57
      · obtain ⟨d1, d2⟩ := hd
        obtain ⟨z, hz⟩ : ∃ z : Nat, u = (z : Int) + 48 := ⟨(u - 48).toNat, by omega⟩
        subst hz
        have hdg : isdig (gb l k) = true := by
          have h1 := HU.out
          rw [HX.out] at h1
          unfold ub at h1
          unfold isdig
          simp only [Bool.and_eq_true, decide_eq_true_eq]
          omega
        have hsn := take_snoc l k (by rw [HZ.out]; exact k1)
        have hdv : decv (l.take (k + 1)) = v * 10 + z := by
          rw [hsn, decv_snoc HA.out (by exact hdg), ← HV.out]
          have h1 := HU.out
          rw [HX.out] at h1
          unfold ub gb at h1
          omega
        have HDV := Lib.hid hdv
        have HDG := Lib.hid hdg
        have c1 : ¬ (z : Int) + 48 < 48 := by omega
        have c2 : ¬ (57 : Int) < (z : Int) + 48 := by omega
        have c3 : (z : Int) ≤ 9 := by omega
        have v1 : (v : Int) < 1000000000 := by omega
        clear hsn hdv hdg hv hs hk9 u0 u1
        go_wp2
        go_round
        case measure => simp [intOf]; omega
        case rel => exact ⟨k + 1, by omega, by omega, by go_num, by rw [HDV.out]; go_num, all_snoc l k (by rw [HZ.out]; exact k1) _ HA.out HDG.out⟩
      · have hdg : isdig (gb l k) = false := by
          have h1 := HU.out
          rw [HX.out] at h1
          unfold ub at h1
          unfold isdig
          rw [Bool.and_eq_false_iff, decide_eq_false_iff_not, decide_eq_false_iff_not]
          omega
        have hno : digs l 6 = false := by
          unfold digs
          rw [all_not l k (by rw [HZ.out]; exact k1) _ hdg, Bool.and_false]
        have HNO := Lib.hid (numB_not hno)
        clear hdg hno
        by_cases h48 : u < 48
        · go_wp2
          go_ret2
          exact ⟨0, by rw [HNO.out]; rfl, (fun h => by rw [HNO.out] at h; cases h), 0, rfl⟩
        · have h57 : (57 : Int) < u := by omega
          go_wp2
          go_ret2
          exact ⟨0, by rw [HNO.out]; rfl, (fun h => by rw [HNO.out] at h; cases h), 0, rfl⟩
    · have hend : numB l = true → (v : Int) = (decv l : Int) := by
        intro h
        obtain ⟨_, h6, _⟩ := digs_iff (numB_digs h)
        rw [HZ.out] at h6
        rw [HV.out, List.take_of_length_le (by rw [HZ.out]; omega)]
      have HEND := Lib.hid hend
      clear hend
      by_cases hk2 : k = s.size
      · have hall : l.all isdig = true := by
          have := HA.out
          rwa [List.take_of_length_le (by rw [HZ.out]; omega)] at this
        subst hk2
        clear hks hv
        by_cases h0 : s.size = 0
        · have hno : Hid (numB l = false) := Lib.hid (numB_not (by unfold digs; rw [HZ.out, h0]; rfl))
          have e0 : (s.size : Int) = 0 := by omega
          clear hall
          go_wp2
          go_quiet (fail)
          go_wp2
          go_ret2
          exact ⟨v, by rw [hno.out]; rfl, HEND.out, _, rfl⟩
        · have g1 : (1 : Int) ≤ (s.size : Int) := by omega
          by_cases h6 : 6 < s.size
          · have hno : Hid (numB l = false) := Lib.hid (numB_not (by unfold digs; rw [HZ.out]; simp; omega))
            have g6 : decide ((s.size : Int) ≤ 6) = false := by simp; omega
            have g7 : ¬ (s.size : Int) ≤ 6 := by omega
            clear hall
            go_wp2
            go_quiet (fail)
            go_wp2
            go_ret2
            exact ⟨v, by rw [hno.out]; rfl, HEND.out, _, rfl⟩
          · have g6 : (s.size : Int) ≤ 6 := by omega
            have hdg : digs l 6 = true := by
              unfold digs
              rw [hall, HZ.out]
              simp
              omega
            have HDG := Lib.hid hdg
            clear hdg hall
            by_cases h48 : s.toList = [48]
            · have h48b : (s.toList == [48]) = true := by simpa using h48
              have hyes : Hid (numB l = true) := by
                unfold numB
                rw [HDG.out]
                have : l = [48] := by rw [← HST.out]; exact h48
                rw [this]
                exact Lib.hid rfl
              go_wp2
              go_quiet (fail)
              go_wp2
              go_ret2
              exact ⟨v, by rw [hyes.out]; rfl, HEND.out, _, rfl⟩
            · have h48b : (s.toList == [48]) = false := by simpa using h48
              have hix := fun w => run_byteZ w s l HL.out 0 0 rfl (by omega)
              by_cases hh : gb l 0 = 48
              · have hno : Hid (numB l = false) := by
                  have h1 : 1 < l.length := by
                    rcases Nat.lt_or_ge 1 l.length with h | h
                    · exact h
                    · exfalso
                      have hl1 : l.length = 1 := by have := HZ.out; omega
                      obtain ⟨a, ha⟩ := List.length_eq_one_iff.1 hl1
                      refine h48 ?_
                      rw [HST.out, ha]
                      rw [ha] at hh
                      have : a = 48 := hh
                      rw [this]
                  have h2 : l.headD 0 = 48 := by rw [← gb_head]; exact hh
                  unfold numB
                  rw [h2]
                  simp [h1]
                  exact Lib.hid (by simp)
                rw [hh] at hix
                have e8 : ub 48 = 48 := rfl
                rw [e8] at hix
                clear hh h48
                go_wp2
                go_quiet (fail)
                go_wp2
                go_ret2
                exact ⟨v, by rw [hno.out]; rfl, HEND.out, _, rfl⟩
              · have hyes : Hid (numB l = true) := by
                  unfold numB
                  rw [HDG.out, ← gb_head]
                  have : (gb l 0 == 48) = false := by simpa using hh
                  rw [this]
                  exact Lib.hid (by simp)
                have hne : (ub (gb l 0) == 48) = false := by
                  rw [beq_eq_false_iff_ne]
                  intro e
                  exact hh (ub_inj (by rw [e]; rfl))
                have hne2 : (ub (gb l 0) != 48) = true := by rw [bne, hne]; rfl
                clear hh h48
                generalize ub (gb l 0) = y at hix hne hne2
                go_wp2
                go_quiet (fail)
                go_wp2
                go_ret2
                exact ⟨v, by rw [hyes.out]; rfl, HEND.out, _, rfl⟩
      · have hk9' : k = 9 := by omega
        subst hk9'
        have g9 : (9 : Int) < (s.size : Int) := by omega
        have hno : Hid (numB l = false) := Lib.hid (numB_not (by unfold digs; rw [HZ.out]; simp; omega))
        have g1 : (1 : Int) ≤ (s.size : Int) := by omega
        have g6 : decide ((s.size : Int) ≤ 6) = false := by simp; omega
        have g7 : ¬ (s.size : Int) ≤ 6 := by omega
        clear hks hv
        go_wp2
        go_quiet (fail)
        go_wp2
        go_ret2
        exact ⟨v, by rw [hno.out]; rfl, HEND.out, _, rfl⟩
end Go.Proofs.YtpfoohfgochaiaaGreatDoor
