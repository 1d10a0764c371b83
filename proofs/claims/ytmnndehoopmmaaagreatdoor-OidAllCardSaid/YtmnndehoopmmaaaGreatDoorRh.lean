/- The document's answer for a line: four digits, what may be, Get. -/
import Derived.Test.YtmnndehoopmmaaaGreatDoorLg
import Derived.Test.YtmnndehoopmmaaaGreatDoorCm
import Derived.Deep.QuietTactic
import Derived.BigQuiet
namespace Go.Proofs.YtmnndehoopmmaaaGreatDoor
open Go.RowKit
/-- A digit's number, by where its byte lies. -/
theorem hv_cases (c : UInt8) : (48 ≤ ub c ∧ ub c ≤ 57 ∧ hv c = ub c - 48) ∨ (97 ≤ ub c ∧ ub c ≤ 102 ∧ hv c = ub c - 87) ∨ ((ub c < 48 ∨ (57 < ub c ∧ ub c < 97) ∨ 102 < ub c) ∧ hv c = -1) := by
  have h : ∀ n : Fin 256, (48 ≤ (n.val : Int) ∧ (n.val : Int) ≤ 57 ∧ hv (UInt8.ofNat n.val) = (n.val : Int) - 48) ∨ (97 ≤ (n.val : Int) ∧ (n.val : Int) ≤ 102 ∧ hv (UInt8.ofNat n.val) = (n.val : Int) - 87) ∨ (((n.val : Int) < 48 ∨ (57 < (n.val : Int) ∧ (n.val : Int) < 97) ∨ 102 < (n.val : Int)) ∧ hv (UInt8.ofNat n.val) = -1) := by decide +kernel
  have := h ⟨c.toNat, c.toNat_lt⟩
  simpa [ub] using this
def hexI (l : List UInt8) : Int := match hnum l with | none => -1 | some n => (n : Int)
set_option maxRecDepth 100000 in
set_option maxHeartbeats 1600000 in
theorem hex5_any (W : World) (s : ByteArray) (hs : s.size ≤ 4) : Calls Tryz.prog 65 #[.string s] W fun e W' => e = .returned (.int .i64 (hexI s.data.toList)) ∧ W' = W := by
  obtain ⟨l, hl⟩ : ∃ l, l = s.data.toList := ⟨_, rfl⟩
  obtain ⟨b, hb⟩ : ∃ b, b = hexI s.data.toList := ⟨_, rfl⟩
  rw [← hb]
  have HB := Lib.hid hb
  have HL := Lib.hid hl
  have HZ := Lib.hid (ba_size s)
  clear hb hl
  have l0 : (0 : Int) ≤ (s.size : Int) := by omega
  have l4 : (s.size : Int) ≤ 4 := by omega
  go_enter Tryz.func65, Tryz.ntmps65
  go_wp2
  go_loop [3, 4] (fun v i => NumRel l s.size v i) (fun _ i => s.size - (intOf i).toNat)
  case atStart => exact ⟨0, 0, by omega, rfl, rfl, rfl⟩
  case round =>
    obtain ⟨k, n, hk, rfl, rfl, hn⟩ := hrel
    have hll : l.length = s.size := by rw [HL.out, HZ.out]
    have hlt := hnum_lt l k (by rw [hll]; exact hk) n hn
    have hpw : 16 ^ k ≤ 16 ^ 4 := Nat.pow_le_pow_right (by omega) (by omega)
    have n1 : n < 65536 := by
      have : (16 : Nat) ^ 4 = 65536 := by decide
      omega
    have HN := Lib.hid hn
    clear hn hlt hpw
    by_cases hks : k < s.size
    · obtain ⟨x, hx⟩ : ∃ x, x = gb l k := ⟨_, rfl⟩
      have hix : ∀ w, (Instr.index 9 (.string s) (.int .i64 k)).run Tryz.prog w = .ok (.int .u8 (ub x)) w := fun w => by rw [hx]; exact run_byte w s l HL.out k hks
      have hxt : l.take (k + 1) = l.take k ++ [x] := by
        rw [List.take_succ_eq_append_getElem (by omega), hx]
        simp [gb, List.getD_eq_getElem?_getD, List.getElem?_eq_getElem (show k < l.length by omega)]
      have hst : hnum (l.take (k + 1)) = hstep (some n) x := by rw [hxt, hnum_snoc, HN.out]
      have X2 := Lib.hid hst
      have l1 : (k : Int) < (s.size : Int) := by omega
      have hno : hv x = -1 → hexI s.data.toList = -1 := by
        intro h
        have : hnum l = none := by
          rw [← List.take_append_drop (k + 1) l]
          refine hnum_none _ _ ?_
          rw [X2.out]
          unfold hstep
          rw [h]
          rfl
        unfold hexI
        rw [← HL.out, this]
      have hyes : ∀ z : Nat, hv x = (z : Int) → hnum (l.take (k + 1)) = some (n * 16 + z) := by
        intro z h
        rw [X2.out]
        unfold hstep
        rw [h, Option.bind_some, if_neg (by omega)]
        rfl
      have HNO := Lib.hid hno
      have HYES := Lib.hid hyes
      have hc := hv_cases x
      have u0 := ub_nonneg x
      have u1 := ub_lt x
      clear hx hxt hst hno hyes hll
      have n0 : (0 : Int) ≤ (n : Int) := by omega
      have n2 : (n : Int) < 65536 := by omega
      have q1 : wrap64 ((n : Int) * 16) = (n : Int) * 16 := by unfold wrap64; omega
      generalize hux : ub x = u at hc u0 u1 hix
      have HUX := Lib.hid hux
      clear hux
      rcases hc with ⟨c1, c2, c3⟩ | ⟨c1, c2, c3⟩ | ⟨c1, c3⟩
      · obtain ⟨z, hz⟩ : ∃ z : Nat, u = (z : Int) + 48 := ⟨(u - 48).toNat, by omega⟩
        subst hz
        have q2 : wrap64 ((n : Int) * 16 + (z : Int)) = ((n * 16 + z : Nat) : Int) := by unfold wrap64; omega
        have q3 : ((z : Int) + 48 - 48) % 256 = (z : Int) := by omega
        have q4 : IntKind.u8.wrap ((z : Int) + 48 - 48) = (z : Int) := by simp [IntKind.wrap, IntKind.bits, IntKind.signed]; omega
        have C3 : Hid (hv x = (z : Int)) := by rw [c3]; exact Lib.hid (by omega)
        clear c3 hs hk n1 n0 n2 u0 u1
        go_wp2
        go_round
        case measure => simp [intOf]; omega
        case rel => exact ⟨k + 1, n * 16 + z, by omega, by go_num, by go_num, HYES.out z C3.out⟩
      · obtain ⟨z, hz⟩ : ∃ z : Nat, u = (z : Int) + 97 := ⟨(u - 97).toNat, by omega⟩
        subst hz
        have q2 : wrap64 ((n : Int) * 16 + (z : Int)) = (n : Int) * 16 + (z : Int) := by unfold wrap64; omega
        have q5 : wrap64 ((n : Int) * 16 + (z : Int) + 10) = ((n * 16 + (z + 10) : Nat) : Int) := by unfold wrap64; omega
        have q3 : ((z : Int) + 97 - 97) % 256 = (z : Int) := by omega
        have q4 : IntKind.u8.wrap ((z : Int) + 97 - 97) = (z : Int) := by simp [IntKind.wrap, IntKind.bits, IntKind.signed]; omega
        have c4 : ¬ (z : Int) + 97 ≤ 57 := by omega
        have c5 : (48 : Int) ≤ (z : Int) + 97 := by omega
        have C3 : Hid (hv x = ((z + 10 : Nat) : Int)) := by rw [c3]; exact Lib.hid (by omega)
        clear c3 hs hk n1 n0 n2 u0 u1
        go_wp2
        go_round
        case measure => simp [intOf]; omega
        case rel => exact ⟨k + 1, n * 16 + (z + 10), by omega, by go_num, by go_num, HYES.out (z + 10) C3.out⟩
      · have hneg := HNO.out c3
        clear c3 hs hk n1 n0 n2
        rcases c1 with c1 | ⟨c1, c2⟩ | c1
        · have d1 : ¬ (48 : Int) ≤ u := by omega
          have d2 : ¬ (97 : Int) ≤ u := by omega
          go_wp2
          go_ret
          exact ⟨by rw [HB.out, hneg]; rfl, rfl⟩
        · have d1 : (48 : Int) ≤ u := by omega
          have d2 : ¬ (97 : Int) ≤ u := by omega
          have d3 : ¬ u ≤ 57 := by omega
          go_wp2
          go_ret
          exact ⟨by rw [HB.out, hneg]; rfl, rfl⟩
        · have d1 : (48 : Int) ≤ u := by omega
          have d2 : (97 : Int) ≤ u := by omega
          have d3 : ¬ u ≤ 57 := by omega
          have d4 : ¬ u ≤ 102 := by omega
          go_wp2
          go_ret
          exact ⟨by rw [HB.out, hneg]; rfl, rfl⟩
    · have hk2 : k = s.size := by omega
      have hnn : hexI s.data.toList = (n : Int) := by
        unfold hexI
        rw [← HL.out, ← List.take_of_length_le (l := l) (i := k) (by omega), HN.out]
      have HNN := Lib.hid hnn
      clear hnn
      subst hk2
      go_wp2
      go_ret
      exact ⟨by rw [HB.out, HNN.out]; rfl, rfl⟩
theorem digits_cut (a : Nat) (h : a < 16) : digitsB.extract a (a + 1) = ⟨#[hexd a]⟩ := by
  have : ∀ m : Fin 16, digitsB.extract m.val (m.val + 1) = ⟨#[hexd m.val]⟩ := by decide
  exact this ⟨a, h⟩
set_option maxRecDepth 100000 in
set_option maxHeartbeats 1600000 in
theorem may5_any (W : World) (s : ByteArray) (hs : s.size ≤ 4) : Calls Tryz.prog 64 #[.string s] W fun e W' => e = .returned (.bool (lbegins s.data.toList)) ∧ Below W.heap.size W W' := by
  obtain ⟨l, hl⟩ : ∃ l, l = s.data.toList := ⟨_, rfl⟩
  obtain ⟨b, hb⟩ : ∃ b, b = lbegins s.data.toList := ⟨_, rfl⟩
  have hc := hex5_any W s hs
  rw [← hb]
  have hnn : hexI s.data.toList < 0 → b = false := by
    intro h
    rw [hb]
    cases hx : lbegins s.data.toList
    · rfl
    · obtain ⟨m, hm⟩ := lbegins_num hx
      unfold hexI at h
      rw [hm] at h
      simp only at h
      omega
  obtain ⟨i, hi⟩ : ∃ i, i = hexI s.data.toList := ⟨_, rfl⟩
  rw [← hi] at hc hnn
  have HB := Lib.hid hb
  have HL := Lib.hid hl
  have HZ := Lib.hid (ba_size s)
  have HC := Lib.hid hc
  have HNN := Lib.hid hnn
  clear hb hl hc hnn hi
  have l0 : (0 : Int) ≤ (s.size : Int) := by omega
  have l4 : (s.size : Int) ≤ 4 := by omega
  go_enter Tryz.func64, Tryz.ntmps64
  by_cases hneg : i < 0
  · go_wp2_with (go_at_call 65; refine HC.out.mono ?_; rintro e w' ⟨rfl, rfl⟩)
    go_ret
    exact ⟨by rw [HNN.out hneg]; rfl, Below.refl _ _⟩
  · go_wp2_with (go_at_call 65; refine HC.out.mono ?_; rintro e w' ⟨rfl, hw⟩; replace hw := hw.symm; subst hw)
    go_loopw [3] (fun v wr => ∃ k : Nat, k ≤ 1005 ∧ v = .int .i64 k ∧ noneB l k ∧ Below W.heap.size W wr) (fun v _ => 1005 - (intOf v).toNat)
    case atStart => exact ⟨0, by omega, rfl, fun n hn => by omega, Below.refl _ _⟩
    case round =>
      obtain ⟨k, hk, rfl, hn, hw⟩ := hrel
      have HN := Lib.hid hn
      have HW := Lib.hid hw
      clear hn hw HC
      by_cases hlt : k < 1005
      · have l1 : (k : Int) < 1005 := by omega
        have l2 : (k : Int) ≤ 1004 := by omega
        by_cases h234 : k = 2 ∨ k = 3 ∨ k = 4
        · have hm2 : Hid ((lmay k && Lib.hasPrefix (hx4 k) l) = false) := by rcases h234 with rfl | rfl | rfl <;> exact Lib.hid rfl
          rcases h234 with rfl | rfl | rfl
          all_goals
            go_wp2
            go_roundw
            case measure => simp [intOf]
            case rel => exact ⟨_, by omega, by go_num, noneB_succ HN.out hm2.out, HW.out⟩
        · have e2 : ((k : Int) == 2) = false := by rw [beq_eq_false_iff_ne]; omega
          have e3 : ((k : Int) == 3) = false := by rw [beq_eq_false_iff_ne]; omega
          have e4 : ((k : Int) == 4) = false := by rw [beq_eq_false_iff_ne]; omega
          have hm : lmay k = true := lmay_of (by omega)
          obtain ⟨a, ha⟩ : ∃ a, a = k / 256 % 16 := ⟨_, rfl⟩
          obtain ⟨b1, hb1⟩ : ∃ a, a = k / 16 % 16 := ⟨_, rfl⟩
          obtain ⟨c, hc⟩ : ∃ a, a = k % 16 := ⟨_, rfl⟩
          have a16 : (a : Int) < 16 := by omega
          have b16 : (b1 : Int) < 16 := by omega
          have c16 : (c : Int) < 16 := by omega
          have x1 : (k : Int).tdiv 256 = ((k / 256 : Nat) : Int) := by rw [Int.tdiv_eq_ediv_of_nonneg (by omega)]; omega
          have x2 : (((k / 256 : Nat) : Int)).tmod 16 = (a : Int) := by rw [Int.tmod_eq_emod_of_nonneg (by omega)]; omega
          have x3 : (k : Int).tdiv 16 = ((k / 16 : Nat) : Int) := by rw [Int.tdiv_eq_ediv_of_nonneg (by omega)]; omega
          have x4 : (((k / 16 : Nat) : Int)).tmod 16 = (b1 : Int) := by rw [Int.tmod_eq_emod_of_nonneg (by omega)]; omega
          have x5 : (k : Int).tmod 16 = (c : Int) := by rw [Int.tmod_eq_emod_of_nonneg (by omega)]; omega
          have y1 : (k : Int) / 256 % 16 = (a : Int) := by omega
          have y2 : (k : Int) / 16 % 16 = (b1 : Int) := by omega
          have y3 : (k : Int) % 16 = (c : Int) := by omega
          have DA := digits_cut a (by omega)
          have DB := digits_cut b1 (by omega)
          have DC := digits_cut c (by omega)
          have HA := Lib.hid (And.intro ha (And.intro hb1 hc))
          obtain ⟨t, ht⟩ : ∃ t : ByteArray, t = ⟨(hx4 k).toArray⟩ := ⟨_, rfl⟩
          have T : (({ data := #[48] } : ByteArray) ++ ({ data := #[48, 49, 50, 51, 52, 53, 54, 55, 56, 57, 97, 98, 99, 100, 101, 102] } : ByteArray).extract a (a + 1) ++ ({ data := #[48, 49, 50, 51, 52, 53, 54, 55, 56, 57, 97, 98, 99, 100, 101, 102] } : ByteArray).extract b1 (b1 + 1) ++ ({ data := #[48, 49, 50, 51, 52, 53, 54, 55, 56, 57, 97, 98, 99, 100, 101, 102] } : ByteArray).extract c (c + 1)) = t := by
            show (({ data := #[48] } : ByteArray) ++ digitsB.extract a (a + 1) ++ digitsB.extract b1 (b1 + 1) ++ digitsB.extract c (c + 1)) = t
            rw [DA, DB, DC, ht, ha, hb1, hc]
            refine ba_ext ?_
            simp only [ba_append]
            unfold hx4
            rw [show k / 4096 % 16 = 0 by omega]
            rfl
          have tz : (t.size : Int) = 4 := by rw [ht]; rfl
          have hpre : (lmay k && Lib.hasPrefix (hx4 k) l) = ((t.extract 0 s.size).toList == s.toList) := by
            have h1 := Lib.hasPrefix_raw t s
            have h2 : decide (s.size ≤ t.size) = true := by simp; omega
            rw [h2, Bool.true_and, ← HL.out] at h1
            rw [hm, Bool.true_and, h1, ht]
          have HP := Lib.hid hpre
          clear ha hb1 hc h234 ht DA DB DC hpre hm
          cases hp : ((t.extract 0 s.size).toList == s.toList)
          · have hm2 := Lib.hid (HP.out.trans hp)
            go_wp2
            go_quiet (fail)
            go_wp2
            go_roundw
            case measure => simp [intOf]; omega
            case rel => exact ⟨k + 1, by omega, by go_num, noneB_succ HN.out hm2.out, below_drewN' HW.out _⟩
          · have hm2 := Lib.hid (HP.out.trans hp)
            go_wp2
            go_quiet (fail)
            go_wp2
            go_ret
            exact ⟨by rw [HB.out, ← HL.out, someB hlt hm2.out]; rfl, below_drewN' HW.out _⟩
      · have hk2 : k = 1005 := by omega
        subst hk2
        go_wp2
        go_ret
        exact ⟨by rw [HB.out, ← HL.out, noneB_all HN.out]; rfl, HW.out⟩
set_option maxRecDepth 100000 in
set_option maxHeartbeats 1600000 in
theorem get5_any (W : World) (s : ByteArray) (hs : s.size ≤ 140737488355328) : Calls Tryz.prog 12 #[.string s] W fun e W' => e = .returned (getV (getR s.data.toList)) ∧ Below W.heap.size W W' := by
  rw [← getQ_eq]
  obtain ⟨l, hl⟩ : ∃ l, l = s.data.toList := ⟨_, rfl⟩
  rw [← hl]
  have hz : l.length = s.size := by rw [hl, ← ba_size]
  have e4 : (min (s.size : Int) 4).toNat = min s.size 4 := by omega
  have ht : ∀ n, n = min s.size 4 → (s.extract 0 n).data.toList = l.take 4 := fun n h => by
    rw [h, ba_upto, ← hl, Nat.min_comm, ← List.take_take, ← hz, List.take_length]
  obtain ⟨t, htt⟩ : ∃ t : ByteArray, s.extract 0 (min s.size 4) = t := ⟨_, rfl⟩
  have htl : t.data.toList = l.take 4 := by rw [← htt]; exact ht _ rfl
  have htz : t.size ≤ 4 := by rw [ba_size, htl]; exact List.length_take_le _ _
  have cM := fun w => may5_any w t htz
  have cH := fun w => hex5_any w t htz
  rw [htl] at cM
  simp only [htl] at cH
  obtain ⟨b, hb⟩ : ∃ b, b = getV (getQ l) := ⟨_, rfl⟩
  rw [← hb]
  unfold getQ at hb
  rw [hz] at hb
  have T : s.extract 0 (min (s.size : Int) 4).toNat = t := by rw [e4]; exact htt
  have T4 : 4 ≤ s.size → s.extract 0 4 = t := fun h => by rw [← htt, show min s.size 4 = 4 by omega]
  have l0 : (0 : Int) ≤ min (s.size : Int) 4 := by omega
  have l1 : min (s.size : Int) 4 ≤ (s.size : Int) := by omega
  have CM := Lib.hid cM
  have CH := Lib.hid cH
  have HZ := Lib.hid hz
  have HL := Lib.hid hl
  clear cM cH htt ht htl htz e4 hz hl
  cases hlb : lbegins (l.take 4)
  · rw [if_pos hlb] at hb
    have HB := Lib.hid hb
    clear hb T4
    go_enter Tryz.func12, Tryz.ntmps12
    go_wp2_with (go_at_call 64; refine (CM.out _).mono ?_; rintro e w1 ⟨he, hb1⟩; rw [hlb] at he; subst he; have B1 := Lib.hid hb1; clear hb1)
    refine bodyPost_ret (results_tmp4 rfl _ _) rfl ?_
    exact ⟨by rw [HB.out]; rfl, B1.out⟩
  · rw [if_neg (by rw [hlb]; simp)] at hb
    by_cases h4 : s.size < 4
    · rw [if_pos h4] at hb
      have HB := Lib.hid hb
      have h5 : (s.size : Int) < 4 := by omega
      clear hb T4
      go_enter Tryz.func12, Tryz.ntmps12
      go_wp2_with (go_at_call 64; refine (CM.out _).mono ?_; rintro e w1 ⟨he, hb1⟩; rw [hlb] at he; subst he; have B1 := Lib.hid hb1; clear hb1)
      refine bodyPost_ret (results_tmp4 rfl _ _) rfl ?_
      exact ⟨by rw [HB.out]; rfl, B1.out⟩
    · rw [if_neg h4] at hb
      obtain ⟨n, hn, hm⟩ := (lbegins_four (l := l) (by rw [HZ.out]; omega)).1 hlb
      have hle := lmay_le hm
      have hI : hexI (l.take 4) = (n : Int) := by unfold hexI; rw [hn]
      rw [hn] at hb
      simp only [Option.getD_some] at hb
      have TT := T4 (by omega)
      have h5 : (4 : Int) ≤ (s.size : Int) := by omega
      have HI := Lib.hid hI
      clear T4 hI hn hm h4
      have arm : ∀ w, Calls Tryz.prog 65 #[.string t] w fun e w' => e = .returned (.int .i64 n) ∧ w' = w := fun w => by
        have := CH.out w
        rwa [HI.out] at this
      have ARM := Lib.hid arm
      clear arm
      rcases hle with rfl | rfl | ⟨g1, g2⟩
      · rw [if_pos rfl] at hb
        have HB := Lib.hid hb
        clear hb
        go_enter Tryz.func12, Tryz.ntmps12
        go_wp2_with (first
          | (go_at_call 64; refine (CM.out _).mono ?_; rintro e w1 ⟨he, hb1⟩; rw [hlb] at he; subst he; have B1 := Lib.hid hb1; clear hb1)
          | (go_at_call 65; refine (ARM.out _).mono ?_; rintro e w' ⟨rfl, hw⟩; replace hw := hw.symm; subst hw))
        refine bodyPost_ret (results_tmp4 rfl _ _) rfl ?_
        exact ⟨by rw [HB.out]; rfl, B1.out⟩
      · rw [if_neg (by omega), if_pos rfl] at hb
        have HB := Lib.hid hb
        clear hb
        go_enter Tryz.func12, Tryz.ntmps12
        go_wp2_with (first
          | (go_at_call 64; refine (CM.out _).mono ?_; rintro e w1 ⟨he, hb1⟩; rw [hlb] at he; subst he; have B1 := Lib.hid hb1; clear hb1)
          | (go_at_call 65; refine (ARM.out _).mono ?_; rintro e w' ⟨rfl, hw⟩; replace hw := hw.symm; subst hw))
        refine bodyPost_ret (results_tmp4 rfl _ _) rfl ?_
        exact ⟨by rw [HB.out]; rfl, B1.out⟩
      · rw [if_neg (by omega), if_neg (by omega)] at hb
        have e0 : ((n : Int) == 0) = false := by rw [beq_eq_false_iff_ne]; omega
        have e1 : ((n : Int) == 1) = false := by rw [beq_eq_false_iff_ne]; omega
        by_cases hlt : s.size < n
        · rw [if_pos hlt] at hb
          have HB := Lib.hid hb
          have h6 : (s.size : Int) < (n : Int) := by omega
          clear hb
          go_enter Tryz.func12, Tryz.ntmps12
          go_wp2_with (first
            | (go_at_call 64; refine (CM.out _).mono ?_; rintro e w1 ⟨he, hb1⟩; rw [hlb] at he; subst he; have B1 := Lib.hid hb1; clear hb1)
            | (go_at_call 65; refine (ARM.out _).mono ?_; rintro e w' ⟨rfl, hw⟩; replace hw := hw.symm; subst hw))
          refine bodyPost_ret (results_tmp4 rfl _ _) rfl ?_
          exact ⟨by rw [HB.out]; rfl, B1.out⟩
        · rw [if_neg hlt] at hb
          have HB := Lib.hid hb
          have h6 : ¬ (s.size : Int) < (n : Int) := by omega
          have h7 : (n : Int) ≤ (s.size : Int) := by omega
          have h8 : (4 : Int) ≤ (n : Int) := by omega
          clear hb
          go_enter Tryz.func12, Tryz.ntmps12
          go_wp2_with (first
            | (go_at_call 64; refine (CM.out _).mono ?_; rintro e w1 ⟨he, hb1⟩; rw [hlb] at he; subst he; have B1 := Lib.hid hb1; clear hb1)
            | (go_at_call 65; refine (ARM.out _).mono ?_; rintro e w' ⟨rfl, hw⟩; replace hw := hw.symm; subst hw))
          go_quiet (fail)
          go_wp2
          refine bodyPost_ret (results_tmp4 rfl _ _) rfl ?_
          refine ⟨?_, below_drewN' B1.out _⟩
          have e : (⟨(List.drop 4 (List.take n l)).toArray⟩ : ByteArray) = s.extract 4 n := ba_ext (by rw [ba_extract, ← HL.out])
          rw [HB.out]
          unfold getV
          simp only [e]
          rfl
end Go.Proofs.YtmnndehoopmmaaaGreatDoor
