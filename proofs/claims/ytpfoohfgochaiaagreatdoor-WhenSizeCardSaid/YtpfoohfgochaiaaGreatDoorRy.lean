/- The document's answer for a limit: Size. -/
import Derived.Test.YtpfoohfgochaiaaGreatDoorRz
namespace Go.Proofs.YtpfoohfgochaiaaGreatDoor
open Go.RowKit
theorem szSuf_tok (l : List UInt8) : tOk (szSuf l).2 := by
  unfold szSuf tOk
  split
  · exact .inl rfl
  · split
    · exact .inr (.inl rfl)
    · exact .inr (.inr rfl)
theorem isdig_ub (x : UInt8) : isdig x = true ↔ 48 ≤ ub x ∧ ub x ≤ 57 := by
  unfold isdig ub
  simp only [Bool.and_eq_true, decide_eq_true_eq]
  omega
theorem szOk_num (w r : List UInt8) (p : Bool) : szOk w r p = (numB w && (!p || digs r 3)) := rfl
theorem sizeR_at {l t : List UInt8} {k : Nat} (ht : (szSuf l).1 = t) (h1 : ∀ j, j < k → gb t j ≠ 46) (h2 : k < t.length) (h3 : gb t k = 46) : sizeR l = szR (t.take k) (t.drop (k + 1)) true (szSuf l).2 := by
  unfold sizeR
  rw [ht, cut_at h1 h2 h3]
theorem sizeR_no {l t : List UInt8} (ht : (szSuf l).1 = t) (h1 : ∀ j, j < t.length → gb t j ≠ 46) : sizeR l = szR t [] false (szSuf l).2 := by
  unfold sizeR
  rw [ht, cut_no h1]
theorem szR_no {w r : List UInt8} {p : Bool} {t : Nat} (h : szOk w r p = false) : szR w r p t = (0, false) := by
  unfold szR
  rw [if_neg (by rw [h]; simp)]
theorem szR_yes {w r : List UInt8} {p : Bool} {t : Nat} (h : szOk w r p = true) : szR w r p t = (fmul (fdiv (floatOfInt .f64 (decv (w ++ r) : Int)) (f10 r.length)) t, true) := by
  unfold szR
  rw [if_pos h]
/-- The division and the product, as the program makes them. -/
theorem run_div (q j : Nat) (hj : j ≤ 3) (W : World) : (binOp .quo 48 (.float .f64 (floatOfInt .f64 (q : Int))) (.float .f64 (f10 j))).run Tryz.prog W = .ok (.float .f64 (fdiv (floatOfInt .f64 (q : Int)) (f10 j))) W := by
  obtain ⟨n1, m1, e1, hr1, hm1⟩ := f10_read j hj
  obtain ⟨y, hy, hyn⟩ := div_num (ofInt_num (q : Int)) n1 m1 e1 hr1 hm1
  exact run_float_arith (P := Tryz.prog) W .quo 48 .f64 (floatOfInt .f64 (q : Int)) (f10 j) _ (fdiv_bits hy)
theorem run_times (q j tb : Nat) (hj : j ≤ 3) (ht : tOk tb) (W : World) : (binOp .mul 48 (.float .f64 (fdiv (floatOfInt .f64 (q : Int)) (f10 j))) (.float .f64 tb)).run Tryz.prog W = .ok (.float .f64 (fmul (fdiv (floatOfInt .f64 (q : Int)) (f10 j)) tb)) W := by
  obtain ⟨n1, m1, e1, hr1, hm1⟩ := f10_read j hj
  obtain ⟨y, hy, hyn⟩ := div_num (ofInt_num (q : Int)) n1 m1 e1 hr1 hm1
  have hyf : fdiv (floatOfInt .f64 (q : Int)) (f10 j) = y := by unfold fdiv; rw [hy]; rfl
  obtain ⟨n2, m2, e2, hr2, hm2⟩ := tOk_read ht
  obtain ⟨x, hx, hxn⟩ := mul_num hyn n2 m2 e2 hr2 hm2
  rw [← hyf] at hx
  exact run_float_arith (P := Tryz.prog) W .mul 48 .f64 _ tb _ (fmul_bits hx)
set_option maxRecDepth 100000 in
set_option maxHeartbeats 8000000 in
theorem refSize_any (W : World) (s : ByteArray) (l : List UInt8) (hl : l = s.data.toList) (hs : s.size ≤ 1048576) : Calls Tryz.prog 43 #[.string s] W fun e W' =>
    e = .returned (.tuple #[.float .f64 (sizeR l).1, .bool (sizeR l).2]) ∧ ∃ m, W' = W.drewN m := by
  have HL := Lib.hid hl
  have hll : l.length = s.size := by rw [hl, ← ba_size]
  have HZ := Lib.hid hll
  have hst : s.toList = l := by rw [ByteArray.toList_eq, hl]
  obtain ⟨x, hx⟩ : ∃ x, x = gb l (s.size - 1) := ⟨_, rfl⟩
  have hlast : l.getD (l.length - 1) 0 = x := by rw [hx, hll]; rfl
  have hcase : (s.size = 0 ∧ szSuf l = (l, 4607182418800017408)) ∨ (0 < s.size ∧ ub x = 107 ∧ szSuf l = (l.take (l.length - 1), 4652218415073722368)) ∨ (0 < s.size ∧ ub x = 109 ∧ szSuf l = (l.take (l.length - 1), 4697254411347427328)) ∨ (0 < s.size ∧ (ub x == 107) = false ∧ (ub x == 109) = false ∧ szSuf l = (l, 4607182418800017408)) := by
    rcases Nat.eq_zero_or_pos s.size with h0 | h0
    · exact .inl ⟨h0, szSuf_no (fun h => by omega)⟩
    · by_cases h1 : x = 107
      · exact .inr (.inl ⟨h0, by rw [h1]; rfl, szSuf_k (by omega) (by rw [hlast, h1])⟩)
      · by_cases h2 : x = 109
        · exact .inr (.inr (.inl ⟨h0, by rw [h2]; rfl, szSuf_m (by omega) (by rw [hlast, h2])⟩))
        · exact .inr (.inr (.inr ⟨h0, by rw [beq_eq_false_iff_ne]; intro e; exact h1 (ub_inj (by rw [e]; rfl)), by rw [beq_eq_false_iff_ne]; intro e; exact h2 (ub_inj (by rw [e]; rfl)), szSuf_no (fun _ => by rw [hlast]; exact ⟨h1, h2⟩)⟩))
  have hix : 0 < s.size → ∀ w, (Instr.index 9 (.string s) (.int .i64 ((s.size : Int) - 1))).run Tryz.prog w = .ok (.int .u8 (ub x)) w := fun h w => by rw [hx]; exact run_byteZ w s l hl (s.size - 1) ((s.size : Int) - 1) (by omega) (by omega)
  have HX := Lib.hid hix
  clear hix hlast hx hl
  obtain ⟨y, hy⟩ : ∃ y, y = ub x := ⟨_, rfl⟩
  rw [← hy] at hcase HX
  clear hy hll
  obtain ⟨u0, hu0⟩ : ∃ u : ByteArray, s.extract 0 (s.size - 1) = u := ⟨_, rfl⟩
  have hu0l : u0.data.toList = l.take (l.length - 1) := by rw [← hu0, ba_upto, HL.out, ← ba_size]
  have hu0z : u0.size ≤ s.size := by rw [ba_size, hu0l, List.length_take, HZ.out]; omega
  have HU0 := Lib.hid hu0l
  have l9 : (s.size : Int) ≤ 1048576 := by omega
  have hemp : 0 < s.size → s.toList.isEmpty = false ∧ ¬ s.toList = [] := fun h => by
    rw [hst]
    have hz := HZ.out
    cases l with
    | nil => simp at hz; omega
    | cons a b => exact ⟨rfl, by simp⟩
  have hemp0 : s.size = 0 → s.toList = [] := fun h => by rw [hst]; exact List.eq_nil_of_length_eq_zero (by rw [HZ.out]; exact h)
  have HE := Lib.hid (And.intro hemp hemp0)
  clear hu0l hst hemp hemp0
  go_enter Tryz.func43, Tryz.ntmps43
  rcases hcase with ⟨h0, hz⟩ | ⟨h0, h1, hz⟩ | ⟨h0, h1, hz⟩ | ⟨h0, h1, h2, hz⟩
  · have he := HE.out.2 h0
    have HS1 : Hid ((szSuf l).1 = s.data.toList ∧ (szSuf l).2 = 4607182418800017408) := Lib.hid (by rw [hz]; exact ⟨HL.out, rfl⟩)
    have us : s.size ≤ 1048576 := hs
    clear hz HX HU0 hu0 hu0z
    go_upto_region 7 with fail
    clear he h0 HE HL HZ hs l9
    obtain ⟨u, rfl⟩ : ∃ u, u = s := ⟨s, rfl⟩
    obtain ⟨t, ht⟩ : ∃ t, t = u.data.toList := ⟨_, rfl⟩
    have HT := Lib.hid ht
    have htz : t.length = u.size := by rw [ht, ← ba_size]
    have HTZ := Lib.hid htz
    have hS1 := HS1.out.1
    rw [← ht] at hS1
    have TOK := Lib.hid (szSuf_tok l)
    have HSA := Lib.hid hS1
    have us2 : (u.size : Int) ≤ 1048576 := by omega
    clear ht htz hS1
    go_wp2
    go_loop [5] (fun i => ∃ k : Nat, k ≤ u.size ∧ i = .int .i64 k ∧ ∀ j, j < k → gb t j ≠ 46) (fun i => u.size - (intOf i).toNat)
    case atStart => exact ⟨0, by omega, rfl, fun j hj => by omega⟩
    case round =>
      obtain ⟨k, hk, rfl, hne⟩ := hrel
      have HNE := Lib.hid hne
      clear hne
      by_cases hlt : k < u.size
      · have l1 : (k : Int) < (u.size : Int) := by omega
        have hix := fun w => run_byte w u t HT.out k hlt
        by_cases h46 : gb t k = 46
        · have hR := sizeR_at HSA.out HNE.out (by rw [HTZ.out]; exact hlt) h46
          have hix2 : ∀ w, (Instr.index 9 (.string u) (.int .i64 k)).run Tryz.prog w = .ok (.int .u8 46) w := fun w => by
            have := hix w
            rw [h46] at this
            exact this
          obtain ⟨v, hv⟩ : ∃ v : ByteArray, u.extract 0 k = v := ⟨_, rfl⟩
          have hvl : v.data.toList = t.take k := by rw [← hv, ba_upto, ← HT.out]
          have hvz : v.size ≤ 1048576 := by rw [ba_size, hvl, List.length_take, HTZ.out]; omega
          obtain ⟨r, hr⟩ : ∃ r : ByteArray, u.extract (k + 1) u.size = r := ⟨_, rfl⟩
          have hrl : r.data.toList = t.drop (k + 1) := by rw [← hr, ba_from, ← HT.out]
          have cN := fun w => num6_any w v (t.take k) hvl.symm hvz
          generalize t.take k = wl at hR cN hvl
          generalize t.drop (k + 1) = rl at hR hrl
          have hrz : rl.length = r.size := by rw [← hrl, ← ba_size]
          have HR := Lib.hid hR
          have HRL := Lib.hid hrl
          have HRZ := Lib.hid hrz
          have hru : (r.size : Int) ≤ (u.size : Int) := by rw [← hr, ByteArray.size_extract]; omega
          clear hix hR hvl hrl hrz h46 HNE
          cases hN : numB wl
          · have hn : szOk wl rl true = false := by rw [szOk_num, hN]; rfl
            have hR2 := HR.out.trans (szR_no hn)
            have HR2 := Lib.hid hR2
            clear hn hR2
            go_wp2_with (go_at_call 99; refine (cN _).mono ?_; rintro e w1 ⟨z, he, hz, m1, rfl⟩; rw [hN] at he; subst he)
            go_ret2
            exact ⟨by rw [HR2.out]; rfl, _, rfl⟩
          · obtain ⟨a1, a6, aw⟩ := digs_iff (numB_digs hN)
            have AW := Lib.hid (And.intro aw a6)
            clear a1 a6 aw
            have cN2 : ∀ w, Calls Tryz.prog 99 #[.string v, .int .i64 6] w fun e w' => e = .returned (.tuple #[.int .i64 (decv wl : Int), .bool true]) ∧ ∃ m, w' = w.drewN m := fun w => (cN w).mono fun e w' ⟨z, he, hz, hm⟩ => ⟨by rw [he, hz hN, hN], hm⟩
            clear cN
            by_cases hsz : 1 ≤ r.size ∧ r.size ≤ 3
            · obtain ⟨s1, s3⟩ := hsz
              have b1 : ¬ (r.size : Int) < 1 := by omega
              have b2 : decide ((r.size : Int) < 1) = false := by simp; omega
              have b3 : ¬ (3 : Int) < (r.size : Int) := by omega
              have b4 : decide ((3 : Int) < (r.size : Int)) = false := by simp; omega
              have b5 : (r.size : Int) ≤ 3 := by omega
              go_wp2_with (go_at_call 99; refine (cN2 _).mono ?_; rintro e w1 ⟨rfl, m1, rfl⟩)
              go_loop [6, 8, 10] (fun n d i => ∃ j : Nat, j ≤ r.size ∧ i = .int .i64 j ∧ n = .int .i64 (decv (wl ++ rl.take j) : Int) ∧ d = .float .f64 (f10 j) ∧ (rl.take j).all isdig = true) (fun _ _ i => r.size - (intOf i).toNat)
              case atStart => exact ⟨0, by omega, rfl, by simp, rfl, rfl⟩
              case round =>
                obtain ⟨j, hj, rfl, rfl, rfl, ha⟩ := hrel
                have hall : (wl ++ rl.take j).all isdig = true := by rw [List.all_append, AW.out.1, ha]; rfl
                have hdl := decv_lt (wl ++ rl.take j) hall (by rw [List.length_append, List.length_take]; have := AW.out.2; omega)
                obtain ⟨q, hq⟩ : ∃ q, q = decv (wl ++ rl.take j) := ⟨_, rfl⟩
                rw [← hq] at hdl
                rw [← hq]
                have q9 : (q : Int) < 1000000000 := by omega
                have HQ := Lib.hid hq
                have HAL := Lib.hid (And.intro ha hall)
                clear hq ha hall hdl
                by_cases hjr : j < r.size
                · have j1 : (j : Int) < (r.size : Int) := by omega
                  have hjl : j < rl.length := by rw [HRZ.out]; exact hjr
                  have hiy := fun w => run_byte w r rl HRL.out.symm j hjr
                  have hsn := take_snoc rl j hjl
                  have hgd : rl.getD j 0 = gb rl j := rfl
                  rw [hgd] at hsn
                  have hfm := fun V => run_float_arith (P := Tryz.prog) V .mul 48 .f64 (f10 j) 4621819117588971520 (f10 (j + 1)) (f10_succ j (by omega))
                  cases hdg : isdig (gb rl j)
                  · have hno : digs rl 3 = false := by
                      unfold digs
                      rw [all_not rl j hjl isdig hdg, Bool.and_false]
                    have hn : szOk wl rl true = false := by rw [szOk_num, hno, hN]; rfl
                    have HR2 := Lib.hid (HR.out.trans (szR_no hn))
                    have hnd : ¬ (48 ≤ ub (gb rl j) ∧ ub (gb rl j) ≤ 57) := fun h => by
                      rw [(isdig_ub _).2 h] at hdg; cases hdg
                    generalize ub (gb rl j) = y at hiy hnd
                    clear hno hn hsn hdg
                    by_cases h48 : y < 48
                    · go_wp2
                      go_ret2
                      exact ⟨by rw [HR2.out]; rfl, _, rfl⟩
                    · have h57 : (57 : Int) < y := by omega
                      go_wp2
                      go_ret2
                      exact ⟨by rw [HR2.out]; rfl, _, rfl⟩
                  · have hd2 := (isdig_ub _).1 hdg
                    obtain ⟨y, hy⟩ : ∃ y : Nat, ub (gb rl j) = (y : Int) + 48 := ⟨(ub (gb rl j) - 48).toNat, by omega⟩
                    have hdv : decv (wl ++ rl.take (j + 1)) = q * 10 + y := by
                      rw [hsn, ← List.append_assoc, decv_snoc HAL.out.2 hdg, ← HQ.out]
                      unfold ub at hy
                      omega
                    have HDV := Lib.hid hdv
                    have HAN := Lib.hid (all_snoc rl j hjl isdig HAL.out.1 hdg)
                    rw [hy] at hiy hd2
                    have y9 : (y : Int) ≤ 9 := by omega
                    have y1 : ¬ (y : Int) + 48 < 48 := by omega
                    have y2 : ¬ (57 : Int) < (y : Int) + 48 := by omega
                    clear hdv hsn hdg hd2 hy
                    go_wp2
                    go_round
                    case measure => simp [intOf]; omega
                    case rel => exact ⟨j + 1, by omega, by go_num, by rw [HDV.out]; go_num, rfl, HAN.out⟩
                · have hjr' : j = r.size := by omega
                  subst hjr'
                  have htk : rl.take r.size = rl := List.take_of_length_le (by rw [HRZ.out]; omega)
                  have hok : szOk wl rl true = true := by
                    rw [szOk_num, hN]
                    have h1 := HAL.out.1
                    rw [htk] at h1
                    unfold digs
                    rw [h1, HRZ.out]
                    simp
                    omega
                  have hR3 := HR.out.trans (szR_yes hok)
                  rw [HRZ.out] at hR3
                  have hq2 := HQ.out
                  rw [htk] at hq2
                  rw [← hq2, HS1.out.2] at hR3
                  have HR3 := Lib.hid hR3
                  have hdi := fun V => run_div q r.size s3 V
                  have htm := fun V => run_times q r.size (szSuf l).2 s3 TOK.out V
                  rw [HS1.out.2] at htm
                  have hci := fun V => run_convert_int_float (P := Tryz.prog) V 3 48 .i64 .f64 (q : Int) rfl (by kernel_rfl)
                  clear htk hok hR3 hq2
                  go_wp2
                  go_ret2
                  exact ⟨by rw [HR3.out]; rfl, _, rfl⟩
            · have hno : digs rl 3 = false := by
                unfold digs
                rw [HRZ.out]
                rcases Nat.lt_or_ge r.size 1 with h | h
                · simp; omega
                · have : ¬ r.size ≤ 3 := by omega
                  simp [this]
              have hn : szOk wl rl true = false := by rw [szOk_num, hno, hN]; rfl
              have HR2 := Lib.hid (HR.out.trans (szR_no hn))
              clear hno hn
              rcases Nat.lt_or_ge r.size 1 with h | h
              · have b1 : (r.size : Int) < 1 := by omega
                clear hsz h
                go_wp2_with (go_at_call 99; refine (cN2 _).mono ?_; rintro e w1 ⟨rfl, m1, rfl⟩)
                go_ret2
                exact ⟨by rw [HR2.out]; rfl, _, rfl⟩
              · have b1 : ¬ (r.size : Int) < 1 := by omega
                have b2 : decide ((r.size : Int) < 1) = false := by simp; omega
                have b3 : (3 : Int) < (r.size : Int) := by omega
                clear hsz h
                go_wp2_with (go_at_call 99; refine (cN2 _).mono ?_; rintro e w1 ⟨rfl, m1, rfl⟩)
                go_ret2
                exact ⟨by rw [HR2.out]; rfl, _, rfl⟩
        · have hnb : (ub (gb t k) == 46) = false := by
            rw [beq_eq_false_iff_ne]
            intro e
            exact h46 (ub_inj (by rw [e]; rfl))
          have hnb2 : (ub (gb t k) != 46) = true := by rw [bne, hnb]; rfl
          have H46 := Lib.hid h46
          clear h46
          generalize ub (gb t k) = y at hix hnb hnb2
          go_wp2
          go_round
          case measure => simp [intOf]; omega
          case rel =>
            refine ⟨k + 1, by omega, by go_num, fun j hj => ?_⟩
            rcases Nat.lt_or_ge j k with h | h
            · exact HNE.out j h
            · obtain rfl : j = k := by omega
              exact H46.out
      · have hk' : k = u.size := by omega
        subst hk'
        have hR := sizeR_no HSA.out (fun j hj => HNE.out j (by rw [← HTZ.out]; exact hj))
        obtain ⟨v, hv⟩ : ∃ v : ByteArray, u.extract 0 u.size = v := ⟨_, rfl⟩
        have hvl : v.data.toList = t := by rw [← hv, ba_upto, ← HT.out]; exact List.take_of_length_le (by rw [HTZ.out]; omega)
        have hvz : v.size ≤ 1048576 := by rw [ba_size, hvl, HTZ.out]; omega
        have cN := fun w => num6_any w v t hvl.symm hvz
        have HR := Lib.hid hR
        clear hR hvl HNE hlt hk
        cases hN : numB t
        · have hn : szOk t [] false = false := by rw [szOk_num, hN]; rfl
          have HR2 := Lib.hid (HR.out.trans (szR_no hn))
          clear hn
          go_wp2_with (go_at_call 99; refine (cN _).mono ?_; rintro e w1 ⟨z, he, hz, m1, rfl⟩; rw [hN] at he; subst he)
          go_ret2
          exact ⟨by rw [HR2.out]; rfl, _, rfl⟩
        · have hok : szOk t [] false = true := by rw [szOk_num, hN]; rfl
          have hR3 := HR.out.trans (szR_yes hok)
          obtain ⟨q, hq⟩ : ∃ q, q = decv t := ⟨_, rfl⟩
          rw [List.append_nil, ← hq, HS1.out.2] at hR3
          have HR3 := Lib.hid hR3
          have cN2 : ∀ w, Calls Tryz.prog 99 #[.string v, .int .i64 6] w fun e w' => e = .returned (.tuple #[.int .i64 (q : Int), .bool true]) ∧ ∃ m, w' = w.drewN m := fun w => (cN w).mono fun e w' ⟨z, he, hz, hm⟩ => ⟨by rw [he, hz hN, hN, hq], hm⟩
          have hdi : ∀ V, (binOp .quo 48 (.float .f64 (floatOfInt .f64 (q : Int))) (.float .f64 4607182418800017408)).run Tryz.prog V = .ok (.float .f64 (fdiv (floatOfInt .f64 (q : Int)) (f10 0))) V := fun V => run_div q 0 (by omega) V
          have htm := fun V => run_times q 0 (szSuf l).2 (by omega) TOK.out V
          rw [HS1.out.2] at htm
          have hci := fun V => run_convert_int_float (P := Tryz.prog) V 3 48 .i64 .f64 (q : Int) rfl (by kernel_rfl)
          clear hok hR3 cN hq
          go_wp2_with (go_at_call 99; refine (cN2 _).mono ?_; rintro e w1 ⟨rfl, m1, rfl⟩)
          go_ret2
          exact ⟨by rw [HR3.out]; rfl, _, rfl⟩
  · obtain ⟨he, he2⟩ := HE.out.1 h0
    have hi := HX.out h0
    have l1 : (1 : Int) ≤ (s.size : Int) := by omega
    have HS1 : Hid ((szSuf l).1 = u0.data.toList ∧ (szSuf l).2 = 4652218415073722368) := Lib.hid (by rw [hz]; exact ⟨HU0.out.symm, rfl⟩)
    have us : u0.size ≤ 1048576 := by omega
    clear hz HX
    go_upto_region 7 with fail
    clear he he2 hi h0 h1 l1 HE HL HZ hs l9 HU0 hu0 hu0z
    obtain ⟨u, rfl⟩ : ∃ u, u = u0 := ⟨u0, rfl⟩
    obtain ⟨t, ht⟩ : ∃ t, t = u.data.toList := ⟨_, rfl⟩
    have HT := Lib.hid ht
    have htz : t.length = u.size := by rw [ht, ← ba_size]
    have HTZ := Lib.hid htz
    have hS1 := HS1.out.1
    rw [← ht] at hS1
    have TOK := Lib.hid (szSuf_tok l)
    have HSA := Lib.hid hS1
    have us2 : (u.size : Int) ≤ 1048576 := by omega
    clear ht htz hS1
    go_wp2
    go_loop [5] (fun i => ∃ k : Nat, k ≤ u.size ∧ i = .int .i64 k ∧ ∀ j, j < k → gb t j ≠ 46) (fun i => u.size - (intOf i).toNat)
    case atStart => exact ⟨0, by omega, rfl, fun j hj => by omega⟩
    case round =>
      obtain ⟨k, hk, rfl, hne⟩ := hrel
      have HNE := Lib.hid hne
      clear hne
      by_cases hlt : k < u.size
      · have l1 : (k : Int) < (u.size : Int) := by omega
        have hix := fun w => run_byte w u t HT.out k hlt
        by_cases h46 : gb t k = 46
        · have hR := sizeR_at HSA.out HNE.out (by rw [HTZ.out]; exact hlt) h46
          have hix2 : ∀ w, (Instr.index 9 (.string u) (.int .i64 k)).run Tryz.prog w = .ok (.int .u8 46) w := fun w => by
            have := hix w
            rw [h46] at this
            exact this
          obtain ⟨v, hv⟩ : ∃ v : ByteArray, u.extract 0 k = v := ⟨_, rfl⟩
          have hvl : v.data.toList = t.take k := by rw [← hv, ba_upto, ← HT.out]
          have hvz : v.size ≤ 1048576 := by rw [ba_size, hvl, List.length_take, HTZ.out]; omega
          obtain ⟨r, hr⟩ : ∃ r : ByteArray, u.extract (k + 1) u.size = r := ⟨_, rfl⟩
          have hrl : r.data.toList = t.drop (k + 1) := by rw [← hr, ba_from, ← HT.out]
          have cN := fun w => num6_any w v (t.take k) hvl.symm hvz
          generalize t.take k = wl at hR cN hvl
          generalize t.drop (k + 1) = rl at hR hrl
          have hrz : rl.length = r.size := by rw [← hrl, ← ba_size]
          have HR := Lib.hid hR
          have HRL := Lib.hid hrl
          have HRZ := Lib.hid hrz
          have hru : (r.size : Int) ≤ (u.size : Int) := by rw [← hr, ByteArray.size_extract]; omega
          clear hix hR hvl hrl hrz h46 HNE
          cases hN : numB wl
          · have hn : szOk wl rl true = false := by rw [szOk_num, hN]; rfl
            have hR2 := HR.out.trans (szR_no hn)
            have HR2 := Lib.hid hR2
            clear hn hR2
            go_wp2_with (go_at_call 99; refine (cN _).mono ?_; rintro e w1 ⟨z, he, hz, m1, rfl⟩; rw [hN] at he; subst he)
            go_ret2
            exact ⟨by rw [HR2.out]; rfl, _, rfl⟩
          · obtain ⟨a1, a6, aw⟩ := digs_iff (numB_digs hN)
            have AW := Lib.hid (And.intro aw a6)
            clear a1 a6 aw
            have cN2 : ∀ w, Calls Tryz.prog 99 #[.string v, .int .i64 6] w fun e w' => e = .returned (.tuple #[.int .i64 (decv wl : Int), .bool true]) ∧ ∃ m, w' = w.drewN m := fun w => (cN w).mono fun e w' ⟨z, he, hz, hm⟩ => ⟨by rw [he, hz hN, hN], hm⟩
            clear cN
            by_cases hsz : 1 ≤ r.size ∧ r.size ≤ 3
            · obtain ⟨s1, s3⟩ := hsz
              have b1 : ¬ (r.size : Int) < 1 := by omega
              have b2 : decide ((r.size : Int) < 1) = false := by simp; omega
              have b3 : ¬ (3 : Int) < (r.size : Int) := by omega
              have b4 : decide ((3 : Int) < (r.size : Int)) = false := by simp; omega
              have b5 : (r.size : Int) ≤ 3 := by omega
              go_wp2_with (go_at_call 99; refine (cN2 _).mono ?_; rintro e w1 ⟨rfl, m1, rfl⟩)
              go_loop [6, 8, 10] (fun n d i => ∃ j : Nat, j ≤ r.size ∧ i = .int .i64 j ∧ n = .int .i64 (decv (wl ++ rl.take j) : Int) ∧ d = .float .f64 (f10 j) ∧ (rl.take j).all isdig = true) (fun _ _ i => r.size - (intOf i).toNat)
              case atStart => exact ⟨0, by omega, rfl, by simp, rfl, rfl⟩
              case round =>
                obtain ⟨j, hj, rfl, rfl, rfl, ha⟩ := hrel
                have hall : (wl ++ rl.take j).all isdig = true := by rw [List.all_append, AW.out.1, ha]; rfl
                have hdl := decv_lt (wl ++ rl.take j) hall (by rw [List.length_append, List.length_take]; have := AW.out.2; omega)
                obtain ⟨q, hq⟩ : ∃ q, q = decv (wl ++ rl.take j) := ⟨_, rfl⟩
                rw [← hq] at hdl
                rw [← hq]
                have q9 : (q : Int) < 1000000000 := by omega
                have HQ := Lib.hid hq
                have HAL := Lib.hid (And.intro ha hall)
                clear hq ha hall hdl
                by_cases hjr : j < r.size
                · have j1 : (j : Int) < (r.size : Int) := by omega
                  have hjl : j < rl.length := by rw [HRZ.out]; exact hjr
                  have hiy := fun w => run_byte w r rl HRL.out.symm j hjr
                  have hsn := take_snoc rl j hjl
                  have hgd : rl.getD j 0 = gb rl j := rfl
                  rw [hgd] at hsn
                  have hfm := fun V => run_float_arith (P := Tryz.prog) V .mul 48 .f64 (f10 j) 4621819117588971520 (f10 (j + 1)) (f10_succ j (by omega))
                  cases hdg : isdig (gb rl j)
                  · have hno : digs rl 3 = false := by
                      unfold digs
                      rw [all_not rl j hjl isdig hdg, Bool.and_false]
                    have hn : szOk wl rl true = false := by rw [szOk_num, hno, hN]; rfl
                    have HR2 := Lib.hid (HR.out.trans (szR_no hn))
                    have hnd : ¬ (48 ≤ ub (gb rl j) ∧ ub (gb rl j) ≤ 57) := fun h => by
                      rw [(isdig_ub _).2 h] at hdg; cases hdg
                    generalize ub (gb rl j) = y at hiy hnd
                    clear hno hn hsn hdg
                    by_cases h48 : y < 48
                    · go_wp2
                      go_ret2
                      exact ⟨by rw [HR2.out]; rfl, _, rfl⟩
                    · have h57 : (57 : Int) < y := by omega
                      go_wp2
                      go_ret2
                      exact ⟨by rw [HR2.out]; rfl, _, rfl⟩
                  · have hd2 := (isdig_ub _).1 hdg
                    obtain ⟨y, hy⟩ : ∃ y : Nat, ub (gb rl j) = (y : Int) + 48 := ⟨(ub (gb rl j) - 48).toNat, by omega⟩
                    have hdv : decv (wl ++ rl.take (j + 1)) = q * 10 + y := by
                      rw [hsn, ← List.append_assoc, decv_snoc HAL.out.2 hdg, ← HQ.out]
                      unfold ub at hy
                      omega
                    have HDV := Lib.hid hdv
                    have HAN := Lib.hid (all_snoc rl j hjl isdig HAL.out.1 hdg)
                    rw [hy] at hiy hd2
                    have y9 : (y : Int) ≤ 9 := by omega
                    have y1 : ¬ (y : Int) + 48 < 48 := by omega
                    have y2 : ¬ (57 : Int) < (y : Int) + 48 := by omega
                    clear hdv hsn hdg hd2 hy
                    go_wp2
                    go_round
                    case measure => simp [intOf]; omega
                    case rel => exact ⟨j + 1, by omega, by go_num, by rw [HDV.out]; go_num, rfl, HAN.out⟩
                · have hjr' : j = r.size := by omega
                  subst hjr'
                  have htk : rl.take r.size = rl := List.take_of_length_le (by rw [HRZ.out]; omega)
                  have hok : szOk wl rl true = true := by
                    rw [szOk_num, hN]
                    have h1 := HAL.out.1
                    rw [htk] at h1
                    unfold digs
                    rw [h1, HRZ.out]
                    simp
                    omega
                  have hR3 := HR.out.trans (szR_yes hok)
                  rw [HRZ.out] at hR3
                  have hq2 := HQ.out
                  rw [htk] at hq2
                  rw [← hq2, HS1.out.2] at hR3
                  have HR3 := Lib.hid hR3
                  have hdi := fun V => run_div q r.size s3 V
                  have htm := fun V => run_times q r.size (szSuf l).2 s3 TOK.out V
                  rw [HS1.out.2] at htm
                  have hci := fun V => run_convert_int_float (P := Tryz.prog) V 3 48 .i64 .f64 (q : Int) rfl (by kernel_rfl)
                  clear htk hok hR3 hq2
                  go_wp2
                  go_ret2
                  exact ⟨by rw [HR3.out]; rfl, _, rfl⟩
            · have hno : digs rl 3 = false := by
                unfold digs
                rw [HRZ.out]
                rcases Nat.lt_or_ge r.size 1 with h | h
                · simp; omega
                · have : ¬ r.size ≤ 3 := by omega
                  simp [this]
              have hn : szOk wl rl true = false := by rw [szOk_num, hno, hN]; rfl
              have HR2 := Lib.hid (HR.out.trans (szR_no hn))
              clear hno hn
              rcases Nat.lt_or_ge r.size 1 with h | h
              · have b1 : (r.size : Int) < 1 := by omega
                clear hsz h
                go_wp2_with (go_at_call 99; refine (cN2 _).mono ?_; rintro e w1 ⟨rfl, m1, rfl⟩)
                go_ret2
                exact ⟨by rw [HR2.out]; rfl, _, rfl⟩
              · have b1 : ¬ (r.size : Int) < 1 := by omega
                have b2 : decide ((r.size : Int) < 1) = false := by simp; omega
                have b3 : (3 : Int) < (r.size : Int) := by omega
                clear hsz h
                go_wp2_with (go_at_call 99; refine (cN2 _).mono ?_; rintro e w1 ⟨rfl, m1, rfl⟩)
                go_ret2
                exact ⟨by rw [HR2.out]; rfl, _, rfl⟩
        · have hnb : (ub (gb t k) == 46) = false := by
            rw [beq_eq_false_iff_ne]
            intro e
            exact h46 (ub_inj (by rw [e]; rfl))
          have hnb2 : (ub (gb t k) != 46) = true := by rw [bne, hnb]; rfl
          have H46 := Lib.hid h46
          clear h46
          generalize ub (gb t k) = y at hix hnb hnb2
          go_wp2
          go_round
          case measure => simp [intOf]; omega
          case rel =>
            refine ⟨k + 1, by omega, by go_num, fun j hj => ?_⟩
            rcases Nat.lt_or_ge j k with h | h
            · exact HNE.out j h
            · obtain rfl : j = k := by omega
              exact H46.out
      · have hk' : k = u.size := by omega
        subst hk'
        have hR := sizeR_no HSA.out (fun j hj => HNE.out j (by rw [← HTZ.out]; exact hj))
        obtain ⟨v, hv⟩ : ∃ v : ByteArray, u.extract 0 u.size = v := ⟨_, rfl⟩
        have hvl : v.data.toList = t := by rw [← hv, ba_upto, ← HT.out]; exact List.take_of_length_le (by rw [HTZ.out]; omega)
        have hvz : v.size ≤ 1048576 := by rw [ba_size, hvl, HTZ.out]; omega
        have cN := fun w => num6_any w v t hvl.symm hvz
        have HR := Lib.hid hR
        clear hR hvl HNE hlt hk
        cases hN : numB t
        · have hn : szOk t [] false = false := by rw [szOk_num, hN]; rfl
          have HR2 := Lib.hid (HR.out.trans (szR_no hn))
          clear hn
          go_wp2_with (go_at_call 99; refine (cN _).mono ?_; rintro e w1 ⟨z, he, hz, m1, rfl⟩; rw [hN] at he; subst he)
          go_ret2
          exact ⟨by rw [HR2.out]; rfl, _, rfl⟩
        · have hok : szOk t [] false = true := by rw [szOk_num, hN]; rfl
          have hR3 := HR.out.trans (szR_yes hok)
          obtain ⟨q, hq⟩ : ∃ q, q = decv t := ⟨_, rfl⟩
          rw [List.append_nil, ← hq, HS1.out.2] at hR3
          have HR3 := Lib.hid hR3
          have cN2 : ∀ w, Calls Tryz.prog 99 #[.string v, .int .i64 6] w fun e w' => e = .returned (.tuple #[.int .i64 (q : Int), .bool true]) ∧ ∃ m, w' = w.drewN m := fun w => (cN w).mono fun e w' ⟨z, he, hz, hm⟩ => ⟨by rw [he, hz hN, hN, hq], hm⟩
          have hdi : ∀ V, (binOp .quo 48 (.float .f64 (floatOfInt .f64 (q : Int))) (.float .f64 4607182418800017408)).run Tryz.prog V = .ok (.float .f64 (fdiv (floatOfInt .f64 (q : Int)) (f10 0))) V := fun V => run_div q 0 (by omega) V
          have htm := fun V => run_times q 0 (szSuf l).2 (by omega) TOK.out V
          rw [HS1.out.2] at htm
          have hci := fun V => run_convert_int_float (P := Tryz.prog) V 3 48 .i64 .f64 (q : Int) rfl (by kernel_rfl)
          clear hok hR3 cN hq
          go_wp2_with (go_at_call 99; refine (cN2 _).mono ?_; rintro e w1 ⟨rfl, m1, rfl⟩)
          go_ret2
          exact ⟨by rw [HR3.out]; rfl, _, rfl⟩
  · obtain ⟨he, he2⟩ := HE.out.1 h0
    have hi := HX.out h0
    have l1 : (1 : Int) ≤ (s.size : Int) := by omega
    have HS1 : Hid ((szSuf l).1 = u0.data.toList ∧ (szSuf l).2 = 4697254411347427328) := Lib.hid (by rw [hz]; exact ⟨HU0.out.symm, rfl⟩)
    have us : u0.size ≤ 1048576 := by omega
    clear hz HX
    go_upto_region 7 with fail
    clear he he2 hi h0 h1 l1 HE HL HZ hs l9 HU0 hu0 hu0z
    obtain ⟨u, rfl⟩ : ∃ u, u = u0 := ⟨u0, rfl⟩
    obtain ⟨t, ht⟩ : ∃ t, t = u.data.toList := ⟨_, rfl⟩
    have HT := Lib.hid ht
    have htz : t.length = u.size := by rw [ht, ← ba_size]
    have HTZ := Lib.hid htz
    have hS1 := HS1.out.1
    rw [← ht] at hS1
    have TOK := Lib.hid (szSuf_tok l)
    have HSA := Lib.hid hS1
    have us2 : (u.size : Int) ≤ 1048576 := by omega
    clear ht htz hS1
    go_wp2
    go_loop [5] (fun i => ∃ k : Nat, k ≤ u.size ∧ i = .int .i64 k ∧ ∀ j, j < k → gb t j ≠ 46) (fun i => u.size - (intOf i).toNat)
    case atStart => exact ⟨0, by omega, rfl, fun j hj => by omega⟩
    case round =>
      obtain ⟨k, hk, rfl, hne⟩ := hrel
      have HNE := Lib.hid hne
      clear hne
      by_cases hlt : k < u.size
      · have l1 : (k : Int) < (u.size : Int) := by omega
        have hix := fun w => run_byte w u t HT.out k hlt
        by_cases h46 : gb t k = 46
        · have hR := sizeR_at HSA.out HNE.out (by rw [HTZ.out]; exact hlt) h46
          have hix2 : ∀ w, (Instr.index 9 (.string u) (.int .i64 k)).run Tryz.prog w = .ok (.int .u8 46) w := fun w => by
            have := hix w
            rw [h46] at this
            exact this
          obtain ⟨v, hv⟩ : ∃ v : ByteArray, u.extract 0 k = v := ⟨_, rfl⟩
          have hvl : v.data.toList = t.take k := by rw [← hv, ba_upto, ← HT.out]
          have hvz : v.size ≤ 1048576 := by rw [ba_size, hvl, List.length_take, HTZ.out]; omega
          obtain ⟨r, hr⟩ : ∃ r : ByteArray, u.extract (k + 1) u.size = r := ⟨_, rfl⟩
          have hrl : r.data.toList = t.drop (k + 1) := by rw [← hr, ba_from, ← HT.out]
          have cN := fun w => num6_any w v (t.take k) hvl.symm hvz
          generalize t.take k = wl at hR cN hvl
          generalize t.drop (k + 1) = rl at hR hrl
          have hrz : rl.length = r.size := by rw [← hrl, ← ba_size]
          have HR := Lib.hid hR
          have HRL := Lib.hid hrl
          have HRZ := Lib.hid hrz
          have hru : (r.size : Int) ≤ (u.size : Int) := by rw [← hr, ByteArray.size_extract]; omega
          clear hix hR hvl hrl hrz h46 HNE
          cases hN : numB wl
          · have hn : szOk wl rl true = false := by rw [szOk_num, hN]; rfl
            have hR2 := HR.out.trans (szR_no hn)
            have HR2 := Lib.hid hR2
            clear hn hR2
            go_wp2_with (go_at_call 99; refine (cN _).mono ?_; rintro e w1 ⟨z, he, hz, m1, rfl⟩; rw [hN] at he; subst he)
            go_ret2
            exact ⟨by rw [HR2.out]; rfl, _, rfl⟩
          · obtain ⟨a1, a6, aw⟩ := digs_iff (numB_digs hN)
            have AW := Lib.hid (And.intro aw a6)
            clear a1 a6 aw
            have cN2 : ∀ w, Calls Tryz.prog 99 #[.string v, .int .i64 6] w fun e w' => e = .returned (.tuple #[.int .i64 (decv wl : Int), .bool true]) ∧ ∃ m, w' = w.drewN m := fun w => (cN w).mono fun e w' ⟨z, he, hz, hm⟩ => ⟨by rw [he, hz hN, hN], hm⟩
            clear cN
            by_cases hsz : 1 ≤ r.size ∧ r.size ≤ 3
            · obtain ⟨s1, s3⟩ := hsz
              have b1 : ¬ (r.size : Int) < 1 := by omega
              have b2 : decide ((r.size : Int) < 1) = false := by simp; omega
              have b3 : ¬ (3 : Int) < (r.size : Int) := by omega
              have b4 : decide ((3 : Int) < (r.size : Int)) = false := by simp; omega
              have b5 : (r.size : Int) ≤ 3 := by omega
              go_wp2_with (go_at_call 99; refine (cN2 _).mono ?_; rintro e w1 ⟨rfl, m1, rfl⟩)
              go_loop [6, 8, 10] (fun n d i => ∃ j : Nat, j ≤ r.size ∧ i = .int .i64 j ∧ n = .int .i64 (decv (wl ++ rl.take j) : Int) ∧ d = .float .f64 (f10 j) ∧ (rl.take j).all isdig = true) (fun _ _ i => r.size - (intOf i).toNat)
              case atStart => exact ⟨0, by omega, rfl, by simp, rfl, rfl⟩
              case round =>
                obtain ⟨j, hj, rfl, rfl, rfl, ha⟩ := hrel
                have hall : (wl ++ rl.take j).all isdig = true := by rw [List.all_append, AW.out.1, ha]; rfl
                have hdl := decv_lt (wl ++ rl.take j) hall (by rw [List.length_append, List.length_take]; have := AW.out.2; omega)
                obtain ⟨q, hq⟩ : ∃ q, q = decv (wl ++ rl.take j) := ⟨_, rfl⟩
                rw [← hq] at hdl
                rw [← hq]
                have q9 : (q : Int) < 1000000000 := by omega
                have HQ := Lib.hid hq
                have HAL := Lib.hid (And.intro ha hall)
                clear hq ha hall hdl
                by_cases hjr : j < r.size
                · have j1 : (j : Int) < (r.size : Int) := by omega
                  have hjl : j < rl.length := by rw [HRZ.out]; exact hjr
                  have hiy := fun w => run_byte w r rl HRL.out.symm j hjr
                  have hsn := take_snoc rl j hjl
                  have hgd : rl.getD j 0 = gb rl j := rfl
                  rw [hgd] at hsn
                  have hfm := fun V => run_float_arith (P := Tryz.prog) V .mul 48 .f64 (f10 j) 4621819117588971520 (f10 (j + 1)) (f10_succ j (by omega))
                  cases hdg : isdig (gb rl j)
                  · have hno : digs rl 3 = false := by
                      unfold digs
                      rw [all_not rl j hjl isdig hdg, Bool.and_false]
                    have hn : szOk wl rl true = false := by rw [szOk_num, hno, hN]; rfl
                    have HR2 := Lib.hid (HR.out.trans (szR_no hn))
                    have hnd : ¬ (48 ≤ ub (gb rl j) ∧ ub (gb rl j) ≤ 57) := fun h => by
                      rw [(isdig_ub _).2 h] at hdg; cases hdg
                    generalize ub (gb rl j) = y at hiy hnd
                    clear hno hn hsn hdg
                    by_cases h48 : y < 48
                    · go_wp2
                      go_ret2
                      exact ⟨by rw [HR2.out]; rfl, _, rfl⟩
                    · have h57 : (57 : Int) < y := by omega
                      go_wp2
                      go_ret2
                      exact ⟨by rw [HR2.out]; rfl, _, rfl⟩
                  · have hd2 := (isdig_ub _).1 hdg
                    obtain ⟨y, hy⟩ : ∃ y : Nat, ub (gb rl j) = (y : Int) + 48 := ⟨(ub (gb rl j) - 48).toNat, by omega⟩
                    have hdv : decv (wl ++ rl.take (j + 1)) = q * 10 + y := by
                      rw [hsn, ← List.append_assoc, decv_snoc HAL.out.2 hdg, ← HQ.out]
                      unfold ub at hy
                      omega
                    have HDV := Lib.hid hdv
                    have HAN := Lib.hid (all_snoc rl j hjl isdig HAL.out.1 hdg)
                    rw [hy] at hiy hd2
                    have y9 : (y : Int) ≤ 9 := by omega
                    have y1 : ¬ (y : Int) + 48 < 48 := by omega
                    have y2 : ¬ (57 : Int) < (y : Int) + 48 := by omega
                    clear hdv hsn hdg hd2 hy
                    go_wp2
                    go_round
                    case measure => simp [intOf]; omega
                    case rel => exact ⟨j + 1, by omega, by go_num, by rw [HDV.out]; go_num, rfl, HAN.out⟩
                · have hjr' : j = r.size := by omega
                  subst hjr'
                  have htk : rl.take r.size = rl := List.take_of_length_le (by rw [HRZ.out]; omega)
                  have hok : szOk wl rl true = true := by
                    rw [szOk_num, hN]
                    have h1 := HAL.out.1
                    rw [htk] at h1
                    unfold digs
                    rw [h1, HRZ.out]
                    simp
                    omega
                  have hR3 := HR.out.trans (szR_yes hok)
                  rw [HRZ.out] at hR3
                  have hq2 := HQ.out
                  rw [htk] at hq2
                  rw [← hq2, HS1.out.2] at hR3
                  have HR3 := Lib.hid hR3
                  have hdi := fun V => run_div q r.size s3 V
                  have htm := fun V => run_times q r.size (szSuf l).2 s3 TOK.out V
                  rw [HS1.out.2] at htm
                  have hci := fun V => run_convert_int_float (P := Tryz.prog) V 3 48 .i64 .f64 (q : Int) rfl (by kernel_rfl)
                  clear htk hok hR3 hq2
                  go_wp2
                  go_ret2
                  exact ⟨by rw [HR3.out]; rfl, _, rfl⟩
            · have hno : digs rl 3 = false := by
                unfold digs
                rw [HRZ.out]
                rcases Nat.lt_or_ge r.size 1 with h | h
                · simp; omega
                · have : ¬ r.size ≤ 3 := by omega
                  simp [this]
              have hn : szOk wl rl true = false := by rw [szOk_num, hno, hN]; rfl
              have HR2 := Lib.hid (HR.out.trans (szR_no hn))
              clear hno hn
              rcases Nat.lt_or_ge r.size 1 with h | h
              · have b1 : (r.size : Int) < 1 := by omega
                clear hsz h
                go_wp2_with (go_at_call 99; refine (cN2 _).mono ?_; rintro e w1 ⟨rfl, m1, rfl⟩)
                go_ret2
                exact ⟨by rw [HR2.out]; rfl, _, rfl⟩
              · have b1 : ¬ (r.size : Int) < 1 := by omega
                have b2 : decide ((r.size : Int) < 1) = false := by simp; omega
                have b3 : (3 : Int) < (r.size : Int) := by omega
                clear hsz h
                go_wp2_with (go_at_call 99; refine (cN2 _).mono ?_; rintro e w1 ⟨rfl, m1, rfl⟩)
                go_ret2
                exact ⟨by rw [HR2.out]; rfl, _, rfl⟩
        · have hnb : (ub (gb t k) == 46) = false := by
            rw [beq_eq_false_iff_ne]
            intro e
            exact h46 (ub_inj (by rw [e]; rfl))
          have hnb2 : (ub (gb t k) != 46) = true := by rw [bne, hnb]; rfl
          have H46 := Lib.hid h46
          clear h46
          generalize ub (gb t k) = y at hix hnb hnb2
          go_wp2
          go_round
          case measure => simp [intOf]; omega
          case rel =>
            refine ⟨k + 1, by omega, by go_num, fun j hj => ?_⟩
            rcases Nat.lt_or_ge j k with h | h
            · exact HNE.out j h
            · obtain rfl : j = k := by omega
              exact H46.out
      · have hk' : k = u.size := by omega
        subst hk'
        have hR := sizeR_no HSA.out (fun j hj => HNE.out j (by rw [← HTZ.out]; exact hj))
        obtain ⟨v, hv⟩ : ∃ v : ByteArray, u.extract 0 u.size = v := ⟨_, rfl⟩
        have hvl : v.data.toList = t := by rw [← hv, ba_upto, ← HT.out]; exact List.take_of_length_le (by rw [HTZ.out]; omega)
        have hvz : v.size ≤ 1048576 := by rw [ba_size, hvl, HTZ.out]; omega
        have cN := fun w => num6_any w v t hvl.symm hvz
        have HR := Lib.hid hR
        clear hR hvl HNE hlt hk
        cases hN : numB t
        · have hn : szOk t [] false = false := by rw [szOk_num, hN]; rfl
          have HR2 := Lib.hid (HR.out.trans (szR_no hn))
          clear hn
          go_wp2_with (go_at_call 99; refine (cN _).mono ?_; rintro e w1 ⟨z, he, hz, m1, rfl⟩; rw [hN] at he; subst he)
          go_ret2
          exact ⟨by rw [HR2.out]; rfl, _, rfl⟩
        · have hok : szOk t [] false = true := by rw [szOk_num, hN]; rfl
          have hR3 := HR.out.trans (szR_yes hok)
          obtain ⟨q, hq⟩ : ∃ q, q = decv t := ⟨_, rfl⟩
          rw [List.append_nil, ← hq, HS1.out.2] at hR3
          have HR3 := Lib.hid hR3
          have cN2 : ∀ w, Calls Tryz.prog 99 #[.string v, .int .i64 6] w fun e w' => e = .returned (.tuple #[.int .i64 (q : Int), .bool true]) ∧ ∃ m, w' = w.drewN m := fun w => (cN w).mono fun e w' ⟨z, he, hz, hm⟩ => ⟨by rw [he, hz hN, hN, hq], hm⟩
          have hdi : ∀ V, (binOp .quo 48 (.float .f64 (floatOfInt .f64 (q : Int))) (.float .f64 4607182418800017408)).run Tryz.prog V = .ok (.float .f64 (fdiv (floatOfInt .f64 (q : Int)) (f10 0))) V := fun V => run_div q 0 (by omega) V
          have htm := fun V => run_times q 0 (szSuf l).2 (by omega) TOK.out V
          rw [HS1.out.2] at htm
          have hci := fun V => run_convert_int_float (P := Tryz.prog) V 3 48 .i64 .f64 (q : Int) rfl (by kernel_rfl)
          clear hok hR3 cN hq
          go_wp2_with (go_at_call 99; refine (cN2 _).mono ?_; rintro e w1 ⟨rfl, m1, rfl⟩)
          go_ret2
          exact ⟨by rw [HR3.out]; rfl, _, rfl⟩
  · obtain ⟨he, he2⟩ := HE.out.1 h0
    have hi := HX.out h0
    have l1 : (1 : Int) ≤ (s.size : Int) := by omega
    have HS1 : Hid ((szSuf l).1 = s.data.toList ∧ (szSuf l).2 = 4607182418800017408) := Lib.hid (by rw [hz]; exact ⟨HL.out, rfl⟩)
    have us : s.size ≤ 1048576 := hs
    clear hz HX HU0 hu0 hu0z
    go_upto_region 7 with fail
    clear he he2 hi h0 h1 h2 l1 HE HL HZ hs l9
    obtain ⟨u, rfl⟩ : ∃ u, u = s := ⟨s, rfl⟩
    obtain ⟨t, ht⟩ : ∃ t, t = u.data.toList := ⟨_, rfl⟩
    have HT := Lib.hid ht
    have htz : t.length = u.size := by rw [ht, ← ba_size]
    have HTZ := Lib.hid htz
    have hS1 := HS1.out.1
    rw [← ht] at hS1
    have TOK := Lib.hid (szSuf_tok l)
    have HSA := Lib.hid hS1
    have us2 : (u.size : Int) ≤ 1048576 := by omega
    clear ht htz hS1
    go_wp2
    go_loop [5] (fun i => ∃ k : Nat, k ≤ u.size ∧ i = .int .i64 k ∧ ∀ j, j < k → gb t j ≠ 46) (fun i => u.size - (intOf i).toNat)
    case atStart => exact ⟨0, by omega, rfl, fun j hj => by omega⟩
    case round =>
      obtain ⟨k, hk, rfl, hne⟩ := hrel
      have HNE := Lib.hid hne
      clear hne
      by_cases hlt : k < u.size
      · have l1 : (k : Int) < (u.size : Int) := by omega
        have hix := fun w => run_byte w u t HT.out k hlt
        by_cases h46 : gb t k = 46
        · have hR := sizeR_at HSA.out HNE.out (by rw [HTZ.out]; exact hlt) h46
          have hix2 : ∀ w, (Instr.index 9 (.string u) (.int .i64 k)).run Tryz.prog w = .ok (.int .u8 46) w := fun w => by
            have := hix w
            rw [h46] at this
            exact this
          obtain ⟨v, hv⟩ : ∃ v : ByteArray, u.extract 0 k = v := ⟨_, rfl⟩
          have hvl : v.data.toList = t.take k := by rw [← hv, ba_upto, ← HT.out]
          have hvz : v.size ≤ 1048576 := by rw [ba_size, hvl, List.length_take, HTZ.out]; omega
          obtain ⟨r, hr⟩ : ∃ r : ByteArray, u.extract (k + 1) u.size = r := ⟨_, rfl⟩
          have hrl : r.data.toList = t.drop (k + 1) := by rw [← hr, ba_from, ← HT.out]
          have cN := fun w => num6_any w v (t.take k) hvl.symm hvz
          generalize t.take k = wl at hR cN hvl
          generalize t.drop (k + 1) = rl at hR hrl
          have hrz : rl.length = r.size := by rw [← hrl, ← ba_size]
          have HR := Lib.hid hR
          have HRL := Lib.hid hrl
          have HRZ := Lib.hid hrz
          have hru : (r.size : Int) ≤ (u.size : Int) := by rw [← hr, ByteArray.size_extract]; omega
          clear hix hR hvl hrl hrz h46 HNE
          cases hN : numB wl
          · have hn : szOk wl rl true = false := by rw [szOk_num, hN]; rfl
            have hR2 := HR.out.trans (szR_no hn)
            have HR2 := Lib.hid hR2
            clear hn hR2
            go_wp2_with (go_at_call 99; refine (cN _).mono ?_; rintro e w1 ⟨z, he, hz, m1, rfl⟩; rw [hN] at he; subst he)
            go_ret2
            exact ⟨by rw [HR2.out]; rfl, _, rfl⟩
          · obtain ⟨a1, a6, aw⟩ := digs_iff (numB_digs hN)
            have AW := Lib.hid (And.intro aw a6)
            clear a1 a6 aw
            have cN2 : ∀ w, Calls Tryz.prog 99 #[.string v, .int .i64 6] w fun e w' => e = .returned (.tuple #[.int .i64 (decv wl : Int), .bool true]) ∧ ∃ m, w' = w.drewN m := fun w => (cN w).mono fun e w' ⟨z, he, hz, hm⟩ => ⟨by rw [he, hz hN, hN], hm⟩
            clear cN
            by_cases hsz : 1 ≤ r.size ∧ r.size ≤ 3
            · obtain ⟨s1, s3⟩ := hsz
              have b1 : ¬ (r.size : Int) < 1 := by omega
              have b2 : decide ((r.size : Int) < 1) = false := by simp; omega
              have b3 : ¬ (3 : Int) < (r.size : Int) := by omega
              have b4 : decide ((3 : Int) < (r.size : Int)) = false := by simp; omega
              have b5 : (r.size : Int) ≤ 3 := by omega
              go_wp2_with (go_at_call 99; refine (cN2 _).mono ?_; rintro e w1 ⟨rfl, m1, rfl⟩)
              go_loop [6, 8, 10] (fun n d i => ∃ j : Nat, j ≤ r.size ∧ i = .int .i64 j ∧ n = .int .i64 (decv (wl ++ rl.take j) : Int) ∧ d = .float .f64 (f10 j) ∧ (rl.take j).all isdig = true) (fun _ _ i => r.size - (intOf i).toNat)
              case atStart => exact ⟨0, by omega, rfl, by simp, rfl, rfl⟩
              case round =>
                obtain ⟨j, hj, rfl, rfl, rfl, ha⟩ := hrel
                have hall : (wl ++ rl.take j).all isdig = true := by rw [List.all_append, AW.out.1, ha]; rfl
                have hdl := decv_lt (wl ++ rl.take j) hall (by rw [List.length_append, List.length_take]; have := AW.out.2; omega)
                obtain ⟨q, hq⟩ : ∃ q, q = decv (wl ++ rl.take j) := ⟨_, rfl⟩
                rw [← hq] at hdl
                rw [← hq]
                have q9 : (q : Int) < 1000000000 := by omega
                have HQ := Lib.hid hq
                have HAL := Lib.hid (And.intro ha hall)
                clear hq ha hall hdl
                by_cases hjr : j < r.size
                · have j1 : (j : Int) < (r.size : Int) := by omega
                  have hjl : j < rl.length := by rw [HRZ.out]; exact hjr
                  have hiy := fun w => run_byte w r rl HRL.out.symm j hjr
                  have hsn := take_snoc rl j hjl
                  have hgd : rl.getD j 0 = gb rl j := rfl
                  rw [hgd] at hsn
                  have hfm := fun V => run_float_arith (P := Tryz.prog) V .mul 48 .f64 (f10 j) 4621819117588971520 (f10 (j + 1)) (f10_succ j (by omega))
                  cases hdg : isdig (gb rl j)
                  · have hno : digs rl 3 = false := by
                      unfold digs
                      rw [all_not rl j hjl isdig hdg, Bool.and_false]
                    have hn : szOk wl rl true = false := by rw [szOk_num, hno, hN]; rfl
                    have HR2 := Lib.hid (HR.out.trans (szR_no hn))
                    have hnd : ¬ (48 ≤ ub (gb rl j) ∧ ub (gb rl j) ≤ 57) := fun h => by
                      rw [(isdig_ub _).2 h] at hdg; cases hdg
                    generalize ub (gb rl j) = y at hiy hnd
                    clear hno hn hsn hdg
                    by_cases h48 : y < 48
                    · go_wp2
                      go_ret2
                      exact ⟨by rw [HR2.out]; rfl, _, rfl⟩
                    · have h57 : (57 : Int) < y := by omega
                      go_wp2
                      go_ret2
                      exact ⟨by rw [HR2.out]; rfl, _, rfl⟩
                  · have hd2 := (isdig_ub _).1 hdg
                    obtain ⟨y, hy⟩ : ∃ y : Nat, ub (gb rl j) = (y : Int) + 48 := ⟨(ub (gb rl j) - 48).toNat, by omega⟩
                    have hdv : decv (wl ++ rl.take (j + 1)) = q * 10 + y := by
                      rw [hsn, ← List.append_assoc, decv_snoc HAL.out.2 hdg, ← HQ.out]
                      unfold ub at hy
                      omega
                    have HDV := Lib.hid hdv
                    have HAN := Lib.hid (all_snoc rl j hjl isdig HAL.out.1 hdg)
                    rw [hy] at hiy hd2
                    have y9 : (y : Int) ≤ 9 := by omega
                    have y1 : ¬ (y : Int) + 48 < 48 := by omega
                    have y2 : ¬ (57 : Int) < (y : Int) + 48 := by omega
                    clear hdv hsn hdg hd2 hy
                    go_wp2
                    go_round
                    case measure => simp [intOf]; omega
                    case rel => exact ⟨j + 1, by omega, by go_num, by rw [HDV.out]; go_num, rfl, HAN.out⟩
                · have hjr' : j = r.size := by omega
                  subst hjr'
                  have htk : rl.take r.size = rl := List.take_of_length_le (by rw [HRZ.out]; omega)
                  have hok : szOk wl rl true = true := by
                    rw [szOk_num, hN]
                    have h1 := HAL.out.1
                    rw [htk] at h1
                    unfold digs
                    rw [h1, HRZ.out]
                    simp
                    omega
                  have hR3 := HR.out.trans (szR_yes hok)
                  rw [HRZ.out] at hR3
                  have hq2 := HQ.out
                  rw [htk] at hq2
                  rw [← hq2, HS1.out.2] at hR3
                  have HR3 := Lib.hid hR3
                  have hdi := fun V => run_div q r.size s3 V
                  have htm := fun V => run_times q r.size (szSuf l).2 s3 TOK.out V
                  rw [HS1.out.2] at htm
                  have hci := fun V => run_convert_int_float (P := Tryz.prog) V 3 48 .i64 .f64 (q : Int) rfl (by kernel_rfl)
                  clear htk hok hR3 hq2
                  go_wp2
                  go_ret2
                  exact ⟨by rw [HR3.out]; rfl, _, rfl⟩
            · have hno : digs rl 3 = false := by
                unfold digs
                rw [HRZ.out]
                rcases Nat.lt_or_ge r.size 1 with h | h
                · simp; omega
                · have : ¬ r.size ≤ 3 := by omega
                  simp [this]
              have hn : szOk wl rl true = false := by rw [szOk_num, hno, hN]; rfl
              have HR2 := Lib.hid (HR.out.trans (szR_no hn))
              clear hno hn
              rcases Nat.lt_or_ge r.size 1 with h | h
              · have b1 : (r.size : Int) < 1 := by omega
                clear hsz h
                go_wp2_with (go_at_call 99; refine (cN2 _).mono ?_; rintro e w1 ⟨rfl, m1, rfl⟩)
                go_ret2
                exact ⟨by rw [HR2.out]; rfl, _, rfl⟩
              · have b1 : ¬ (r.size : Int) < 1 := by omega
                have b2 : decide ((r.size : Int) < 1) = false := by simp; omega
                have b3 : (3 : Int) < (r.size : Int) := by omega
                clear hsz h
                go_wp2_with (go_at_call 99; refine (cN2 _).mono ?_; rintro e w1 ⟨rfl, m1, rfl⟩)
                go_ret2
                exact ⟨by rw [HR2.out]; rfl, _, rfl⟩
        · have hnb : (ub (gb t k) == 46) = false := by
            rw [beq_eq_false_iff_ne]
            intro e
            exact h46 (ub_inj (by rw [e]; rfl))
          have hnb2 : (ub (gb t k) != 46) = true := by rw [bne, hnb]; rfl
          have H46 := Lib.hid h46
          clear h46
          generalize ub (gb t k) = y at hix hnb hnb2
          go_wp2
          go_round
          case measure => simp [intOf]; omega
          case rel =>
            refine ⟨k + 1, by omega, by go_num, fun j hj => ?_⟩
            rcases Nat.lt_or_ge j k with h | h
            · exact HNE.out j h
            · obtain rfl : j = k := by omega
              exact H46.out
      · have hk' : k = u.size := by omega
        subst hk'
        have hR := sizeR_no HSA.out (fun j hj => HNE.out j (by rw [← HTZ.out]; exact hj))
        obtain ⟨v, hv⟩ : ∃ v : ByteArray, u.extract 0 u.size = v := ⟨_, rfl⟩
        have hvl : v.data.toList = t := by rw [← hv, ba_upto, ← HT.out]; exact List.take_of_length_le (by rw [HTZ.out]; omega)
        have hvz : v.size ≤ 1048576 := by rw [ba_size, hvl, HTZ.out]; omega
        have cN := fun w => num6_any w v t hvl.symm hvz
        have HR := Lib.hid hR
        clear hR hvl HNE hlt hk
        cases hN : numB t
        · have hn : szOk t [] false = false := by rw [szOk_num, hN]; rfl
          have HR2 := Lib.hid (HR.out.trans (szR_no hn))
          clear hn
          go_wp2_with (go_at_call 99; refine (cN _).mono ?_; rintro e w1 ⟨z, he, hz, m1, rfl⟩; rw [hN] at he; subst he)
          go_ret2
          exact ⟨by rw [HR2.out]; rfl, _, rfl⟩
        · have hok : szOk t [] false = true := by rw [szOk_num, hN]; rfl
          have hR3 := HR.out.trans (szR_yes hok)
          obtain ⟨q, hq⟩ : ∃ q, q = decv t := ⟨_, rfl⟩
          rw [List.append_nil, ← hq, HS1.out.2] at hR3
          have HR3 := Lib.hid hR3
          have cN2 : ∀ w, Calls Tryz.prog 99 #[.string v, .int .i64 6] w fun e w' => e = .returned (.tuple #[.int .i64 (q : Int), .bool true]) ∧ ∃ m, w' = w.drewN m := fun w => (cN w).mono fun e w' ⟨z, he, hz, hm⟩ => ⟨by rw [he, hz hN, hN, hq], hm⟩
          have hdi : ∀ V, (binOp .quo 48 (.float .f64 (floatOfInt .f64 (q : Int))) (.float .f64 4607182418800017408)).run Tryz.prog V = .ok (.float .f64 (fdiv (floatOfInt .f64 (q : Int)) (f10 0))) V := fun V => run_div q 0 (by omega) V
          have htm := fun V => run_times q 0 (szSuf l).2 (by omega) TOK.out V
          rw [HS1.out.2] at htm
          have hci := fun V => run_convert_int_float (P := Tryz.prog) V 3 48 .i64 .f64 (q : Int) rfl (by kernel_rfl)
          clear hok hR3 cN hq
          go_wp2_with (go_at_call 99; refine (cN2 _).mono ?_; rintro e w1 ⟨rfl, m1, rfl⟩)
          go_ret2
          exact ⟨by rw [HR3.out]; rfl, _, rfl⟩
end Go.Proofs.YtpfoohfgochaiaaGreatDoor
