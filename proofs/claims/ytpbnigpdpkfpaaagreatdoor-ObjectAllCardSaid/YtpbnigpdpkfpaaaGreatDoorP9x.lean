/- The document's times as digits, and back: Put, Get tell what the program's tell. The document's answer for a name: its digits in tens, the name of what is encoded. -/
import Derived.Test.YtpbnigpdpkfpaaaGreatDoorP3x
import Derived.Test.YtpbnigpdpkfpaaaGreatDoorP8x
import Derived.Test.YtpbnigpdpkfpaaaGreatDoorP5x
import Derived.Test.YtpbnigpdpkfpaaaGreatDoorP15x
namespace Go.Proofs.YtpbnigpdpkfpaaaGreatDoor
open Go.RowKit
theorem fold_shift (l : List UInt8) (a m : Nat) (h : hnum l = some m) : l.foldl hstep (some a) = some (a * 16 ^ l.length + m) := by
  obtain ⟨k, hk⟩ : ∃ k, k = l.length := ⟨_, rfl⟩
  induction k generalizing l m with
  | zero =>
    have := List.length_eq_zero_iff.mp hk.symm
    subst this
    simp [hnum] at h ⊢
    omega
  | succ k ih =>
    rcases List.eq_nil_or_concat l with rfl | ⟨l', c, rfl⟩
    · simp at hk
    simp only [List.concat_eq_append, List.length_append, List.length_cons, List.length_nil] at hk h ⊢
    obtain ⟨h1, h2, h3⟩ := hnum_snoc_some h
    rw [List.foldl_append, ih l' _ h1 (by omega)]
    have : ¬ hv c < 0 := by omega
    simp only [List.foldl_cons, List.foldl_nil, hstep, Option.bind_some, this, if_false, h3]
    congr 1
    rw [Nat.pow_succ, ← Nat.mul_assoc]
    generalize a * 16 ^ l'.length = z
    omega
theorem hnum_cons (d : Nat) (hd : d < 16) (l : List UInt8) (m : Nat) (h : hnum l = some m) : hnum (hexd d :: l) = some (d * 16 ^ l.length + m) := by
  have h2 : hstep (some 0) (hexd d) = some d := by
    have := hv_hexd d hd
    simp only [hstep, Option.bind_some]
    rw [this, if_neg (by omega)]
    congr 1
    omega
  unfold hnum
  rw [List.foldl_cons, h2]
  exact fold_shift l d m h
/-- The low digits of a number: just so many. -/
def Digs (n k : Nat) (l : List UInt8) : Prop := l.length = k ∧ hnum l = some (n % 16 ^ k)
theorem Digs.next {n i : Nat} {l : List UInt8} (h : Digs n i l) : Digs n (i + 1) (hexd (n / 16 ^ i % 16) :: l) := by
  refine ⟨by simp [h.1], ?_⟩
  rw [hnum_cons _ (by omega) l _ h.2, h.1, Nat.pow_succ, Nat.mod_mul, Nat.mul_comm (n / 16 ^ i % 16), Nat.add_comm]
theorem Digs.one {n k : Nat} {l m : List UInt8} (h1 : Digs n k l) (h2 : Digs n k m) : l = m := hnum_inj k l m _ h1.1 h2.1 h1.2 h2.2
def DigRel (n k : Nat) (W : World) (v s i : Value) (wr : World) : Prop := ∃ (j m : Nat) (x : ByteArray), j ≤ k ∧ v = .int .u64 m ∧ s = .string x ∧ i = .int .i64 j ∧ m = n / 16 ^ j ∧ Digs n j x.data.toList ∧ Below W.heap.size W wr
set_option maxRecDepth 20000 in
set_option maxHeartbeats 3200000 in
theorem rdigits_any (W : World) (n k : Nat) (hn : n < 18446744073709551616) (hk : k ≤ 16) (r : List UInt8) (hr : Digs n k r) : Calls Tryz.prog 192 #[.int .u64 n, .int .i64 k] W fun e W' => e = .returned (.string ⟨r.toArray⟩) ∧ Below W.heap.size W W' := by
  have HR := Lib.hid hr
  have k1 : (k : Int) ≤ 16 := by omega
  have HN := Lib.hid hn
  clear hr hn
  go_enter Tryz.func192, Tryz.ntmps192
  go_wp2
  go_loopw [0, 5, 6] (fun v s i wr => DigRel n k W v s i wr) (fun _ _ i _ => k - (intOf i).toNat)
  case atStart => exact ⟨0, n, ⟨#[]⟩, by omega, rfl, rfl, rfl, by simp, ⟨rfl, by simp [hnum, Nat.mod_one]⟩, Below.refl _ _⟩
  case round =>
    obtain ⟨j, m, x, hj, rfl, rfl, rfl, hm, hd, hb⟩ := hrel
    have m0 : (0 : Int) ≤ (m : Int) := by omega
    have m1 : (m : Int) < 18446744073709551616 := by have := HN.out; have : n / 16 ^ j ≤ n := Nat.div_le_self _ _; omega
    by_cases hlt : j < k
    · have l1 : (j : Int) < (k : Int) := by omega
      obtain ⟨d, hdd⟩ : ∃ d : Nat, d = m % 16 := ⟨_, rfl⟩
      have d16 : d < 16 := by omega
      have hmd : (m : Int) % 16 = (d : Int) := by omega
      have hmt : (m : Int).tmod 16 = (d : Int) := by rw [Int.tmod_eq_emod_of_nonneg m0]; omega
      have hq : (m : Int) / 16 = ((m / 16 : Nat) : Int) := by omega
      have hqt : (m : Int).tdiv 16 = ((m / 16 : Nat) : Int) := by rw [Int.tdiv_eq_ediv_of_nonneg m0]; omega
      have hnx := hd.next
      rw [← hm, ← hdd] at hnx
      have hx16 : x.size ≤ 16 := by rw [ba_size, hd.1]; omega
      have hxi : ¬ 9223372036854775807 < 1 + x.size := by omega
      have hlow : d < 10 → (48 : Int) + (d : Int) = ub (hexd d) := fun h => by
        have : ∀ q : Fin 10, (48 : Int) + ((q.val : Nat) : Int) = ub (hexd q.val) := by decide
        exact this ⟨d, h⟩
      have hhigh : ¬ d < 10 → (97 : Int) + (d : Int) - 10 = ub (hexd d) := fun h => by
        have : ∀ q : Fin 16, 10 ≤ q.val → (97 : Int) + ((q.val : Nat) : Int) - 10 = ub (hexd q.val) := by decide
        exact this ⟨d, d16⟩ (Nat.not_lt.1 h)
      have hm2 : m / 16 = n / 16 ^ (j + 1) := by rw [hm, Nat.div_div_eq_div_mul, Nat.pow_succ]
      have NX := Lib.hid hnx
      have LB := Lib.hid hb
      have M2 := Lib.hid hm2
      have dd : (d : Int) < 16 := by omega
      generalize hmq : m / 16 = mq at hq hqt M2
      by_cases h10 : d < 10
      · have e1 := hlow h10
        have e2 : (d : Int) < 10 := by omega
        have e3 : ((48 : Int) + (d : Int)) % 256 = ub (hexd d) := by omega
        generalize hexd d = y at e1 e3 NX
        have EQ := Lib.hid e1
        have ew : IntKind.u8.wrap ((48 : Int) + (d : Int)) = ub y := by rw [← e3]; simp [IntKind.wrap, IntKind.bits, IntKind.signed]
        have d0 : (0 : Int) ≤ 48 + (d : Int) := by omega
        clear hnx hb hm2 hdd hx16 hd hm hmq hlow hhigh h10 e1
        go_wp2_with (refine wpl_conv rfl 53 9 _ rfl (.string ⟨#[y]⟩) (run_str _ _ 1 1 [y] (src_box wr (ub y) _ rfl)) ?_)
        go_roundw
        case measure => simp [intOf]; omega
        case rel => exact ⟨j + 1, mq, ⟨#[y]⟩ ++ x, by omega, rfl, rfl, by go_num, M2.out, by rw [ba_append]; exact NX.out, LB.out.alloc LB.out.size _⟩
      · have e1 := hhigh h10
        have e2 : ¬ (d : Int) < 10 := by omega
        have e2' : (10 : Int) ≤ (d : Int) := by omega
        generalize hexd d = y at e1 NX
        clear hnx hb hm2 hdd hx16 hd hm hmq hlow hhigh h10
        go_wp2_with (refine wpl_conv rfl 53 9 _ rfl (.string ⟨#[y]⟩) (run_str _ _ 1 1 [y] (src_box wr (ub y) _ rfl)) ?_)
        go_roundw
        case measure => simp [intOf]; omega
        case rel => exact ⟨j + 1, mq, ⟨#[y]⟩ ++ x, by omega, rfl, rfl, by go_num, M2.out, by rw [ba_append]; exact NX.out, LB.out.alloc LB.out.size _⟩
    · have hjk : j = k := by omega
      subst hjk
      have he : x = ⟨r.toArray⟩ := ba_ext (by rw [hd.one HR.out])
      subst he
      have LB := Lib.hid hb
      clear hb hd hm m0 m1
      go_wp2
      go_ret
      exact ⟨rfl, LB.out⟩
theorem wput_digs {b : Nat} (hb : b < 18446744073709551616) (h : fmay b = true) : Digs b 16 (wput b) := by
  refine ⟨wput_len hb h, ?_⟩
  rw [wput_num h, show (16 : Nat) ^ 16 = 18446744073709551616 by decide, Nat.mod_eq_of_lt hb]
set_option maxHeartbeats 1600000 in
theorem rput_any (W : World) (b : Nat) (hb : b < 18446744073709551616) : Calls Tryz.prog 135 #[.float .f64 b] W fun e W' => e = .returned (.string ⟨(wput b).toArray⟩) ∧ Below W.heap.size W W' := by
  have cM := rmay_any W b hb
  obtain ⟨p, hp⟩ : ∃ p : ByteArray, p = ⟨(wput b).toArray⟩ := ⟨_, rfl⟩
  rw [← hp]
  cases hm : fmay b
  · rw [hm] at cM
    have h2 : p = ⟨#[]⟩ := by rw [hp, wput_not hm]
    subst h2
    clear hp hm hb
    go_enter Tryz.func135, Tryz.ntmps135
    go_wp2_with (go_at_call 129; refine cM.mono ?_; rintro e w' ⟨rfl, n, rfl⟩)
    go_ret
    exact ⟨rfl, below_drewN' (Below.refl _ _) _⟩
  · rw [hm] at cM
    have cB := fun w => rbits_any w b
    unfold fbits at cB
    rw [fmay_nan hm] at cB
    simp only [cond_false] at cB
    have cD := fun w => rdigits_any w b 16 hb (by omega) (wput b) (wput_digs hb hm)
    rw [← hp] at cD
    have CD : Hid (∀ w, Calls Tryz.prog 192 #[.int .u64 b, .int .i64 16] w fun e W' => e = .returned (.string p) ∧ Below w.heap.size w W') := Lib.hid cD
    clear hp hm hb cD
    go_enter Tryz.func135, Tryz.ntmps135
    go_wp2_with (first
      | (go_at_call 129; refine cM.mono ?_; rintro e w' ⟨rfl, n, rfl⟩)
      | (go_at_call 126; refine (cB _).mono ?_; rintro e w' ⟨rfl, hw⟩; replace hw := hw.symm; subst hw)
      | (go_at_call 192; refine (CD.out _).mono ?_; rintro e w2 ⟨rfl, hb⟩; have L2 := Lib.hid ((below_drewN' (Below.refl W.heap.size W) _).trans hb); clear hb))
    go_ret
    exact ⟨rfl, L2.out⟩
theorem isHexL_hnum (l : List UInt8) : (isHexL l = true → hnum l = some (hnum l |>.getD 0) ∧ numU l = (hnum l).getD 0 % 18446744073709551616) ∧ (isHexL l = false → hnum l = none) := by
  obtain ⟨k, hk⟩ : ∃ k, k = l.length := ⟨_, rfl⟩
  induction k generalizing l with
  | zero =>
    have := List.length_eq_zero_iff.mp hk.symm
    subst this
    exact ⟨fun _ => ⟨rfl, rfl⟩, fun h => by simp [isHexL] at h⟩
  | succ k ih =>
    rcases List.eq_nil_or_concat l with rfl | ⟨m, c, rfl⟩
    · simp at hk
    simp only [List.concat_eq_append, List.length_append, List.length_cons, List.length_nil] at hk ⊢
    obtain ⟨i1, i2⟩ := ih m (by omega)
    rw [isHexL_append, hnum_snoc, numU_snoc]
    have hc1 : isHexL [c] = decide (0 ≤ hv c) := by simp [isHexL]
    rw [hc1]
    cases hm : isHexL m
    · rw [i2 hm]
      exact ⟨fun h => by simp at h, fun _ => rfl⟩
    · obtain ⟨j1, j2⟩ := i1 hm
      by_cases hc : 0 ≤ hv c
      · have hn : ¬ hv c < 0 := by omega
        rw [j1]
        simp only [hstep, Option.bind_some, hn, if_false, Option.getD_some]
        refine ⟨fun _ => ⟨trivial, ?_⟩, fun h => by simp [hc] at h⟩
        rw [j2]
        omega
      · have hn : hv c < 0 := by omega
        rw [j1]
        exact ⟨fun h => by simp [hc] at h, fun _ => by simp [hstep, hn]⟩
def rgetT (l : List UInt8) : Value := .tuple #[.float .f64 (rgetV l).1, .bool (rgetV l).2]
set_option maxRecDepth 20000 in
set_option maxHeartbeats 1600000 in
theorem rget_any (W : World) (s : ByteArray) (hs : s.size ≤ 1048576) : Calls Tryz.prog 138 #[.string s] W fun e W' => e = .returned (rgetT s.data.toList) ∧ Below W.heap.size W W' := by
  have h1 := run_frombits
  have cN := fun w => numberU_any w s s.data.toList rfl hs
  obtain ⟨i1, i2⟩ := isHexL_hnum s.data.toList
  have hz := ba_size s
  have hlt := numU_lt s.data.toList
  unfold rgetT
  by_cases h16 : s.size = 16
  · have z1 : ((s.size : Int) != 16) = false := by rw [h16]; rfl
    cases hx : isHexL s.data.toList
    · rw [hx] at cN
      have hv : rgetV s.data.toList = (0, false) := by unfold rgetV; rw [i2 hx]
      rw [hv]
      unfold numUR at cN
      rw [hx] at cN
      simp only [Bool.false_eq_true, if_false] at cN
      have CN := Lib.hid cN
      clear cN i1 i2 hz hlt hv hx h16 hs
      go_enter Tryz.func138, Tryz.ntmps138
      go_wp2_with (go_at_call 193; refine (CN.out _).mono ?_; rintro e w' ⟨rfl, hw⟩; replace hw := hw.symm; subst hw)
      go_ret2
      exact ⟨rfl, Below.refl _ _⟩
    · rw [hx] at cN
      obtain ⟨j1, j2⟩ := i1 hx
      obtain ⟨n, hn⟩ : ∃ n, n = (hnum s.data.toList).getD 0 := ⟨_, rfl⟩
      rw [← hn] at j1 j2
      have hn64 : n < 18446744073709551616 := by
        have := hnum_lt s.data.toList 16 (by omega) n (by rw [List.take_of_length_le (by omega)]; exact j1)
        rwa [show (16 : Nat) ^ 16 = 18446744073709551616 by decide] at this
      have cM := fun w => rmay_any w n hn64
      have hv : rgetV s.data.toList = bif fmay n then (n, true) else (0, false) := by
        unfold rgetV
        rw [j1]
        simp only [← hz, h16, decide_true, Bool.true_and]
      rw [hv]
      unfold numUR at cN
      rw [hx, if_pos rfl, j2, Nat.mod_eq_of_lt hn64] at cN
      have CN := Lib.hid cN
      cases hm : fmay n
      · rw [hm] at cM
        have CM := Lib.hid cM
        clear cM cN i1 i2 j1 j2 hn hz hlt hv hx h16 hs hn64 hm
        go_enter Tryz.func138, Tryz.ntmps138
        go_wp2_with (first
          | (go_at_call 193; refine (CN.out _).mono ?_; rintro e w' ⟨rfl, hw⟩; replace hw := hw.symm; subst hw)
          | (go_at_call 129; refine (CM.out _).mono ?_; rintro e w' ⟨rfl, n, rfl⟩))
        go_ret2
        exact ⟨rfl, below_drewN' (Below.refl _ _) _⟩
      · rw [hm] at cM
        have CM := Lib.hid cM
        clear cM cN i1 i2 j1 j2 hn hz hlt hv hx h16 hs hn64 hm
        go_enter Tryz.func138, Tryz.ntmps138
        go_wp2_with (first
          | (go_at_call 193; refine (CN.out _).mono ?_; rintro e w' ⟨rfl, hw⟩; replace hw := hw.symm; subst hw)
          | (go_at_call 129; refine (CM.out _).mono ?_; rintro e w' ⟨rfl, n, rfl⟩))
        go_ret2
        exact ⟨rfl, below_drewN' (Below.refl _ _) _⟩
  · have z1 : ((s.size : Int) != 16) = true := by rw [bne_iff_ne]; omega
    have hv : rgetV s.data.toList = (0, false) := by
      unfold rgetV
      cases hnum s.data.toList with
      | none => rfl
      | some n => simp only [← hz, decide_eq_false h16, Bool.false_and, cond_false]
    rw [hv]
    obtain ⟨n, hn⟩ : ∃ n, n = numUR s.data.toList := ⟨_, rfl⟩
    obtain ⟨o, ho⟩ : ∃ o, o = isHexL s.data.toList := ⟨_, rfl⟩
    simp only [← hn, ← ho] at cN
    have CN := Lib.hid cN
    clear cN i1 i2 hz hlt hv h16 hs hn ho
    go_enter Tryz.func138, Tryz.ntmps138
    go_wp2_with (go_at_call 193; refine (CN.out _).mono ?_; rintro e w' ⟨rfl, hw⟩; replace hw := hw.symm; subst hw)
    go_ret2
    exact ⟨rfl, Below.refl _ _⟩
end Go.Proofs.YtpbnigpdpkfpaaaGreatDoor
namespace Go.Proofs.YtpbnigpdpkfpaaaGreatDoor
open Go.RowKit
set_option maxRecDepth 20000 in
set_option maxHeartbeats 1600000 in
theorem rdec_small (n : Nat) (W : World) (h : n < 10) : Calls Tryz.prog 42 #[.int .i64 n] W fun e W' => e = .returned (.string ⟨(Lib.decDigits n).toArray⟩) ∧ Below W.heap.size W W' := by
  have n1 : (n : Int) < 10 := by omega
  obtain ⟨x, hx⟩ : ∃ x : UInt8, x = UInt8.ofNat (48 + n) := ⟨_, rfl⟩
  have e1 : ((48 : Int) + (n : Int)) % 256 = ub x := by
    rw [hx]
    unfold ub
    rw [UInt8.toNat_ofNat']
    omega
  have e2 : IntKind.u8.wrap ((48 : Int) + (n : Int)) = ub x := by
    rw [← e1]
    simp [IntKind.wrap, IntKind.bits, IntKind.signed]
  have n0 : (0 : Int) ≤ 48 + (n : Int) := by omega
  have ed : Lib.decDigits n = [x] := by rw [Lib.decDigits, dif_pos h, hx]
  rw [ed]
  clear h hx ed
  go_enter Tryz.func42, Tryz.ntmps42
  go_wp2_with (refine wpl_conv rfl 53 9 _ rfl (.string ⟨#[x]⟩) (run_str _ _ 1 1 [x] (src_box W (ub x) _ rfl)) ?_)
  go_ret
  exact ⟨rfl, (Below.refl _ _).alloc (Nat.le_refl _) _⟩
set_option maxRecDepth 20000 in
set_option maxHeartbeats 1600000 in
theorem rdec_any (k : Nat) : ∀ (n : Nat) (W : World), n < 10 ^ (k + 1) → k ≤ 6 → Calls Tryz.prog 42 #[.int .i64 n] W fun e W' => e = .returned (.string ⟨(Lib.decDigits n).toArray⟩) ∧ Below W.heap.size W W' := by
  induction k with
  | zero => intro n W h _; exact rdec_small n W (by simpa using h)
  | succ k ih =>
    intro n W h hk
    by_cases hn : n < 10
    · exact rdec_small n W hn
    · obtain ⟨a, ha⟩ : ∃ a, a = n / 10 := ⟨_, rfl⟩
      obtain ⟨b, hb⟩ : ∃ b, b = n % 10 := ⟨_, rfl⟩
      have b10 : b < 10 := by omega
      have cA := fun W => ih a W (by rw [ha, Nat.pow_succ] at *; omega) (by omega)
      have cB := fun W => rdec_small b W b10
      have hp : 10 ^ (k + 1 + 1) ≤ 10 ^ 7 := Nat.pow_le_pow_right (by omega) (by omega)
      have h7 : (10 : Nat) ^ 7 = 10000000 := by decide
      obtain ⟨s1, es1⟩ : ∃ s1 : ByteArray, s1 = ⟨(Lib.decDigits a).toArray⟩ := ⟨_, rfl⟩
      obtain ⟨s2, es2⟩ : ∃ s2 : ByteArray, s2 = ⟨(Lib.decDigits b).toArray⟩ := ⟨_, rfl⟩
      have z1 : s1.size ≤ 20 := by rw [es1]; exact dec_len _ (by omega)
      have z2 : s2.size ≤ 20 := by rw [es2]; exact dec_len _ (by omega)
      have hss : s1 ++ s2 = ⟨(Lib.decDigits n).toArray⟩ := by
        refine ba_ext ?_
        rw [ba_append, es1, es2]
        show Lib.decDigits a ++ Lib.decDigits b = Lib.decDigits n
        conv => rhs; rw [Lib.decDigits, dif_neg hn]
        rw [ha, Lib.decDigits.eq_1 b, dif_pos b10, hb]
      rw [← es1] at cA
      rw [← es2] at cB
      rw [← hss]
      have CA := Lib.hid cA
      have CB := Lib.hid cB
      have n1 : ¬ (n : Int) < 10 := by omega
      have x1 : (n : Int).tdiv 10 = (a : Int) := by rw [Int.tdiv_eq_ediv_of_nonneg (by omega)]; omega
      have x2 : (n : Int).tmod 10 = (b : Int) := by rw [Int.tmod_eq_emod_of_nonneg (by omega)]; omega
      have y1 : (n : Int) / 10 = (a : Int) := by omega
      have y2 : (n : Int) % 10 = (b : Int) := by omega
      have a7 : (a : Int) < 10000000 := by omega
      have b7 : (b : Int) < 10 := by omega
      have wa : wrap64 (a : Int) = (a : Int) := by unfold wrap64; omega
      have wb : wrap64 (b : Int) = (b : Int) := by unfold wrap64; omega
      clear hp h7 a7 b7 b10 es1 es2 hss
      clear cA cB ha hb hn h ih
      go_enter Tryz.func42, Tryz.ntmps42
      go_wp2_with (first
        | (have _t := B1; clear _t; go_at_call 42; refine (CB.out _).mono ?_; rintro e w2 ⟨rfl, hb2⟩; have B2 := Lib.hid (B1.out.trans (hb2.mono B1.out.size)); clear hb2)
        | (go_at_call 42; refine (CA.out _).mono ?_; rintro e w1 ⟨rfl, hb1⟩; have B1 := Lib.hid hb1; clear hb1))
      go_ret
      exact ⟨rfl, B2.out⟩
/-- A name's block in a call of one's own. -/
theorem rid_blk {W w1 w2 : World} (h1 : Below (W.alloc (.cells zero32.toArray 24)).heap.size (W.alloc (.cells zero32.toArray 24)) w1) (h2 : Below w1.heap.size w1 w2) : Blk w2 W.heap.size 24 zero32 ∧ Below W.heap.size W w2 := by
  have l0 : Below W.heap.size W (W.alloc (.cells zero32.toArray 24)) := (Below.refl _ _).alloc (Nat.le_refl _) _
  have s1 := l0.size
  have s2 := h1.size
  exact ⟨((Blk.new W 24 zero32).below h1).below h2, (l0.trans (h1.mono s1)).trans (h2.mono (by omega))⟩
set_option maxRecDepth 100000 in
set_option maxHeartbeats 1600000 in
theorem rid_any (W : World) (k : Int) (s : ByteArray) (l : List UInt8) (hl : l = s.data.toList) (hs : s.size ≤ 1000000) : Calls Tryz.prog 53 #[.int .i64 k, .string s] W fun e W' => e = .returned (.agg (Bs (sha256 (ofL k l))).toArray) ∧ Below W.heap.size W W' := by
  have z32 := z32_eq
  have hz := ba_size s
  obtain ⟨d, hd⟩ : ∃ d : ByteArray, d = ⟨(Lib.decDigits s.size).toArray⟩ := ⟨_, rfl⟩
  have hd20 : d.size ≤ 20 := by rw [hd]; exact dec_len _ (by omega)
  have hi := fun W => rdec_any 6 s.size W (by omega) (by omega)
  rw [← hd] at hi
  have hcall : ∀ (pre : ByteArray), pre = wordB k ++ ⟨#[32]⟩ → ∀ W, Calls Tryz.prog 104 #[.string (pre ++ d ++ ⟨#[0]⟩ ++ s)] W fun e W' => e = .returned (.agg (Bs (sha256 (ofL k l))).toArray) ∧ Below W.heap.size W W' := by
    intro pre hp W
    refine refSum_any W _ (ofL k l) ?_ _ rfl ?_
    · rw [hp]; simp only [ba_append]; rw [hd, hl, hz]; rfl
    · have := wordB_size k
      rw [hp]; simp only [ByteArray.size_append]
      have e1 : (ByteArray.mk #[32]).size = 1 := rfl
      have e2 : (ByteArray.mk #[0]).size = 1 := rfl
      omega
  have hlen : (sha256 (ofL k l)).length = 32 := sha256_length _
  have hk : wordB k ++ ⟨#[32]⟩ = if k = 1 then (⟨#[98, 108, 111, 98, 32]⟩ : ByteArray) else if k = 2 then ⟨#[116, 114, 101, 101, 32]⟩ else if k = 3 then ⟨#[99, 111, 109, 109, 105, 116, 32]⟩ else ⟨#[63, 32]⟩ := by
    unfold wordB
    split
    · rfl
    · split
      · rfl
      · split
        · rfl
        · rfl
  rw [hk] at hcall
  generalize sha256 (ofL k l) = r at hcall hlen ⊢
  have HI := Lib.hid hi
  have HL := Lib.hid hlen
  have hsz5 : (s.size : Int) ≤ 1000000 := by omega
  clear hd hi hk hlen hz hl
  by_cases h1 : k = 1
  · subst h1
    have HC := Lib.hid (hcall _ rfl)
    clear hcall
    go_enter Tryz.func53, Tryz.ntmps53
    go_wp2_with (first
      | (go_at_call 42; refine (HI.out _).mono ?_; rintro e w1 ⟨rfl, hb⟩; have B1 := Lib.hid hb; clear hb)
      | (go_at_call 104; refine (HC.out _).mono ?_; rintro e w2 ⟨rfl, hb⟩; have B2 := Lib.hid hb; clear hb)
      | (refine wpl_store rfl 24 (.tmp 4) _ rfl W.heap.size (Bs r) rfl rfl 24 zero32 (rid_blk B1.out B2.out).1 (by rw [Tryz.sizeId]; simp [HL.out]) (by simp [zero32, HL.out]) (Bs_one _) ?_))
    obtain ⟨hb1, hb2⟩ := rid_blk B1.out B2.out
    refine bodyPost_ret (v := .agg (Bs r).toArray) (res_row rfl _ _ W.heap.size 24 _ 32 5 rfl (hb1.row _) Tryz.underlying24 (by rw [Tryz.sizeId]; simp [HL.out])) rfl ⟨rfl, below_setRow' hb2 (Nat.le_refl _) _⟩
  rw [if_neg h1] at hcall
  by_cases h2 : k = 2
  · subst h2
    clear h1
    have HC := Lib.hid (hcall _ rfl)
    clear hcall
    go_enter Tryz.func53, Tryz.ntmps53
    go_wp2_with (first
      | (go_at_call 42; refine (HI.out _).mono ?_; rintro e w1 ⟨rfl, hb⟩; have B1 := Lib.hid hb; clear hb)
      | (go_at_call 104; refine (HC.out _).mono ?_; rintro e w2 ⟨rfl, hb⟩; have B2 := Lib.hid hb; clear hb)
      | (refine wpl_store rfl 24 (.tmp 4) _ rfl W.heap.size (Bs r) rfl rfl 24 zero32 (rid_blk B1.out B2.out).1 (by rw [Tryz.sizeId]; simp [HL.out]) (by simp [zero32, HL.out]) (Bs_one _) ?_))
    obtain ⟨hb1, hb2⟩ := rid_blk B1.out B2.out
    refine bodyPost_ret (v := .agg (Bs r).toArray) (res_row rfl _ _ W.heap.size 24 _ 32 5 rfl (hb1.row _) Tryz.underlying24 (by rw [Tryz.sizeId]; simp [HL.out])) rfl ⟨rfl, below_setRow' hb2 (Nat.le_refl _) _⟩
  rw [if_neg h2] at hcall
  by_cases h3 : k = 3
  · subst h3
    clear h1 h2
    have HC := Lib.hid (hcall _ rfl)
    clear hcall
    go_enter Tryz.func53, Tryz.ntmps53
    go_wp2_with (first
      | (go_at_call 42; refine (HI.out _).mono ?_; rintro e w1 ⟨rfl, hb⟩; have B1 := Lib.hid hb; clear hb)
      | (go_at_call 104; refine (HC.out _).mono ?_; rintro e w2 ⟨rfl, hb⟩; have B2 := Lib.hid hb; clear hb)
      | (refine wpl_store rfl 24 (.tmp 4) _ rfl W.heap.size (Bs r) rfl rfl 24 zero32 (rid_blk B1.out B2.out).1 (by rw [Tryz.sizeId]; simp [HL.out]) (by simp [zero32, HL.out]) (Bs_one _) ?_))
    obtain ⟨hb1, hb2⟩ := rid_blk B1.out B2.out
    refine bodyPost_ret (v := .agg (Bs r).toArray) (res_row rfl _ _ W.heap.size 24 _ 32 5 rfl (hb1.row _) Tryz.underlying24 (by rw [Tryz.sizeId]; simp [HL.out])) rfl ⟨rfl, below_setRow' hb2 (Nat.le_refl _) _⟩
  rw [if_neg h3] at hcall
  · skip
    have HC := Lib.hid (hcall _ rfl)
    clear hcall
    go_enter Tryz.func53, Tryz.ntmps53
    go_wp2_with (first
      | (go_at_call 42; refine (HI.out _).mono ?_; rintro e w1 ⟨rfl, hb⟩; have B1 := Lib.hid hb; clear hb)
      | (go_at_call 104; refine (HC.out _).mono ?_; rintro e w2 ⟨rfl, hb⟩; have B2 := Lib.hid hb; clear hb)
      | (refine wpl_store rfl 24 (.tmp 4) _ rfl W.heap.size (Bs r) rfl rfl 24 zero32 (rid_blk B1.out B2.out).1 (by rw [Tryz.sizeId]; simp [HL.out]) (by simp [zero32, HL.out]) (Bs_one _) ?_))
    obtain ⟨hb1, hb2⟩ := rid_blk B1.out B2.out
    refine bodyPost_ret (v := .agg (Bs r).toArray) (res_row rfl _ _ W.heap.size 24 _ 32 5 rfl (hb1.row _) Tryz.underlying24 (by rw [Tryz.sizeId]; simp [HL.out])) rfl ⟨rfl, below_setRow' hb2 (Nat.le_refl _) _⟩
set_option maxRecDepth 20000 in
set_option maxHeartbeats 1600000 in
theorem rhex_any (W : World) (bs : List UInt8) (hl : bs.length = 32) : Calls Tryz.prog 134 #[.agg (Bs bs).toArray] W fun e W' => e = .returned (.string ⟨(hexL bs).toArray⟩) ∧ Below W.heap.size W W' := by
  have hB := Blk.new W 24 (Bs bs)
  have hL := (Below.refl W.heap.size W).alloc (Nat.le_refl _) (.cells (Bs bs).toArray 24)
  obtain ⟨w0, hw0⟩ : ∃ w0, w0 = W.alloc (.cells (Bs bs).toArray 24) := ⟨_, rfl⟩
  rw [← hw0] at hB hL
  have B0 := Lib.hid hB
  have LZ := Lib.hid hL
  have HL := Lib.hid hl
  clear hB hL hl
  go_enter Tryz.func134, Tryz.ntmps134
  go_upto_region 1 with fail
  rw [← hw0]
  generalize W.heap.size = g at B0 ⊢
  clear hw0
  go_wp2
  go_loopw [3, 4] (fun v i wr => ∃ (k : Nat) (x : ByteArray), k ≤ 32 ∧ i = .int .i64 k ∧ v = .string x ∧ x.data.toList = hexL (bs.take k) ∧ Below w0.heap.size w0 wr) (fun _ i _ => 32 - (intOf i).toNat)
  case atStart => exact ⟨0, ⟨#[]⟩, by omega, rfl, rfl, rfl, Below.refl _ _⟩
  case round =>
    obtain ⟨k, x, hk, rfl, rfl, hx, hb⟩ := hrel
    have BR := Lib.hid hb
    by_cases hlt : k < 32
    · have l1 : (k : Int) < 32 := by omega
      have hbl := (B0.out.below hb).cell k (.int .u8 (ub (gb bs k))) (Bs_at bs k (by have := HL.out; omega))
      have hdg : Digs (gb bs k).toNat 2 (hex2 (gb bs k)) := by
        have h1 : (gb bs k).toNat < 256 := (gb bs k).toNat_lt
        have h0 : Digs (gb bs k).toNat 0 [] := ⟨rfl, by simp [hnum, Nat.mod_one]⟩
        have h2 := h0.next.next
        rw [show (gb bs k).toNat / 16 ^ 0 % 16 = (gb bs k).toNat % 16 by simp, show (gb bs k).toNat / 16 ^ (0 + 1) % 16 = (gb bs k).toNat / 16 by rw [Nat.zero_add, Nat.pow_one]; omega] at h2
        exact h2
      have cD := fun w => rdigits_any w (gb bs k).toNat 2 (by have := (gb bs k).toNat_lt; omega) (by omega) _ hdg
      have hxs : x.size ≤ 64 := by rw [ba_size, hx, hexL_length, List.length_take]; omega
      have hnx : (x ++ ⟨(hex2 (gb bs k)).toArray⟩ : ByteArray).data.toList = hexL (bs.take (k + 1)) := by
        rw [ba_append, hx]
        have e : bs.take (k + 1) = bs.take k ++ [gb bs k] := by
          rw [List.take_add_one]
          simp [gb, List.getD_eq_getElem?_getD, show k < bs.length by have := HL.out; omega]
        rw [e, hexL_snoc]
      have u1 : (ub (gb bs k)).toNat = (gb bs k).toNat := by unfold ub; omega
      have ue : ub (gb bs k) = (((gb bs k).toNat : Nat) : Int) := rfl
      rw [ue] at hbl
      have hy2 : (⟨(hex2 (gb bs k)).toArray⟩ : ByteArray).size = 2 := rfl
      generalize (⟨(hex2 (gb bs k)).toArray⟩ : ByteArray) = y at cD hnx hy2
      have b8 : (gb bs k).toNat < 256 := (gb bs k).toNat_lt
      generalize (gb bs k).toNat = b at cD hbl b8
      have CD := Lib.hid cD
      have NX := Lib.hid hnx
      have b9 : (b : Int) < 256 := by omega
      have b0 : (0 : Int) ≤ (b : Int) := by omega
      clear cD hnx hx hb hk hdg u1 ue
      go_wp2_with (go_at_call 192; refine (CD.out _).mono ?_; rintro e w2 ⟨rfl, hb2⟩; have B2 := Lib.hid hb2; clear hb2)
      go_roundw
      case measure => simp [intOf]; omega
      case rel => exact ⟨k + 1, x ++ y, by omega, by go_num, rfl, NX.out, BR.out.trans (B2.out.mono BR.out.size)⟩
    · have : k = 32 := by omega
      subst this
      have he : x = ⟨(hexL bs).toArray⟩ := ba_ext (by rw [hx, List.take_of_length_le (by rw [HL.out]; omega)])
      subst he
      clear hx
      go_wp2
      go_ret
      exact ⟨rfl, LZ.out.trans (BR.out.mono LZ.out.size)⟩
end Go.Proofs.YtpbnigpdpkfpaaaGreatDoor
