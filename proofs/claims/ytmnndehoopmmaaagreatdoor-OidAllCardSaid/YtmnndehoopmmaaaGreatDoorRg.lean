/- The document's times as digits, and back: Put, Get tell what the program's tell. -/
import Derived.Test.YtmnndehoopmmaaaGreatDoorRf
import Derived.Test.YtmnndehoopmmaaaGreatDoorWg
import Derived.Test.YtmnndehoopmmaaaGreatDoorIg
import Derived.Test.YtmnndehoopmmaaaGreatDoorQt
namespace Go.Proofs.YtmnndehoopmmaaaGreatDoor
open Go.RowKit
theorem fold_shift (l : List UInt8) (a m : Nat) (h : hnum l = some m) : l.foldl hstep (some a) = some (a * 16 ^ l.length + m) := by
  obtain ⟨k, hk⟩ : ∃ k, k = l.length := ⟨_, rfl⟩
  induction k generalizing l m with
  | zero =>
    have := List.length_eq_zero_iff.mp hk.symm
    subst this
    simp [hnum] at h ⊢
    omega
  | succ k ih =>
    rcases List.eq_nil_or_concat l with rfl | ⟨l', c, rfl⟩
    · simp at hk
    simp only [List.concat_eq_append, List.length_append, List.length_cons, List.length_nil] at hk h ⊢
    obtain ⟨h1, h2, h3⟩ := hnum_snoc_some h
    rw [List.foldl_append, ih l' _ h1 (by omega)]
    have : ¬ hv c < 0 := by omega
    simp only [List.foldl_cons, List.foldl_nil, hstep, Option.bind_some, this, if_false, h3]
    congr 1
    rw [Nat.pow_succ, ← Nat.mul_assoc]
    generalize a * 16 ^ l'.length = z
    omega
theorem hnum_cons (d : Nat) (hd : d < 16) (l : List UInt8) (m : Nat) (h : hnum l = some m) : hnum (hexd d :: l) = some (d * 16 ^ l.length + m) := by
  have h2 : hstep (some 0) (hexd d) = some d := by
    have := hv_hexd d hd
    simp only [hstep, Option.bind_some]
    rw [this, if_neg (by omega)]
    congr 1
    omega
  unfold hnum
  rw [List.foldl_cons, h2]
  exact fold_shift l d m h
/-- The low digits of a number: just so many. -/
def Digs (n k : Nat) (l : List UInt8) : Prop := l.length = k ∧ hnum l = some (n % 16 ^ k)
theorem Digs.next {n i : Nat} {l : List UInt8} (h : Digs n i l) : Digs n (i + 1) (hexd (n / 16 ^ i % 16) :: l) := by
  refine ⟨by simp [h.1], ?_⟩
  rw [hnum_cons _ (by omega) l _ h.2, h.1, Nat.pow_succ, Nat.mod_mul, Nat.mul_comm (n / 16 ^ i % 16), Nat.add_comm]
theorem Digs.one {n k : Nat} {l m : List UInt8} (h1 : Digs n k l) (h2 : Digs n k m) : l = m := hnum_inj k l m _ h1.1 h2.1 h1.2 h2.2
def DigRel (n k : Nat) (W : World) (v s i : Value) (wr : World) : Prop := ∃ (j m : Nat) (x : ByteArray), j ≤ k ∧ v = .int .u64 m ∧ s = .string x ∧ i = .int .i64 j ∧ m = n / 16 ^ j ∧ Digs n j x.data.toList ∧ Below W.heap.size W wr
set_option maxRecDepth 20000 in
set_option maxHeartbeats 3200000 in
theorem rdigits_any (W : World) (n k : Nat) (hn : n < 18446744073709551616) (hk : k ≤ 16) (r : List UInt8) (hr : Digs n k r) : Calls Tryz.prog 72 #[.int .u64 n, .int .i64 k] W fun e W' => e = .returned (.string ⟨r.toArray⟩) ∧ Below W.heap.size W W' := by
  have HR := Lib.hid hr
  have k1 : (k : Int) ≤ 16 := by omega
  have HN := Lib.hid hn
  clear hr hn
  go_enter Tryz.func72, Tryz.ntmps72
  go_wp2
  go_loopw [0, 5, 6] (fun v s i wr => DigRel n k W v s i wr) (fun _ _ i _ => k - (intOf i).toNat)
  case atStart => exact ⟨0, n, ⟨#[]⟩, by omega, rfl, rfl, rfl, by simp, ⟨rfl, by simp [hnum, Nat.mod_one]⟩, Below.refl _ _⟩
  case round =>
    obtain ⟨j, m, x, hj, rfl, rfl, rfl, hm, hd, hb⟩ := hrel
    have m0 : (0 : Int) ≤ (m : Int) := by omega
    have m1 : (m : Int) < 18446744073709551616 := by have := HN.out; have : n / 16 ^ j ≤ n := Nat.div_le_self _ _; omega
    by_cases hlt : j < k
    · have l1 : (j : Int) < (k : Int) := by omega
      obtain ⟨d, hdd⟩ : ∃ d : Nat, d = m % 16 := ⟨_, rfl⟩
      have d16 : d < 16 := by omega
      have hmd : (m : Int) % 16 = (d : Int) := by omega
      have hmt : (m : Int).tmod 16 = (d : Int) := by rw [Int.tmod_eq_emod_of_nonneg m0]; omega
      have hq : (m : Int) / 16 = ((m / 16 : Nat) : Int) := by omega
      have hqt : (m : Int).tdiv 16 = ((m / 16 : Nat) : Int) := by rw [Int.tdiv_eq_ediv_of_nonneg m0]; omega
      have hnx := hd.next
      rw [← hm, ← hdd] at hnx
      have hx16 : x.size ≤ 16 := by rw [ba_size, hd.1]; omega
      have hxi : ¬ 9223372036854775807 < 1 + x.size := by omega
      have hlow : d < 10 → (48 : Int) + (d : Int) = ub (hexd d) := fun h => by
        have : ∀ q : Fin 10, (48 : Int) + ((q.val : Nat) : Int) = ub (hexd q.val) := by decide
        exact this ⟨d, h⟩
      have hhigh : ¬ d < 10 → (97 : Int) + (d : Int) - 10 = ub (hexd d) := fun h => by
        have : ∀ q : Fin 16, 10 ≤ q.val → (97 : Int) + ((q.val : Nat) : Int) - 10 = ub (hexd q.val) := by decide
        exact this ⟨d, d16⟩ (Nat.not_lt.1 h)
      have hm2 : m / 16 = n / 16 ^ (j + 1) := by rw [hm, Nat.div_div_eq_div_mul, Nat.pow_succ]
      have NX := Lib.hid hnx
      have LB := Lib.hid hb
      have M2 := Lib.hid hm2
      have dd : (d : Int) < 16 := by omega
      generalize hmq : m / 16 = mq at hq hqt M2
      by_cases h10 : d < 10
      · have e1 := hlow h10
        have e2 : (d : Int) < 10 := by omega
        have e3 : ((48 : Int) + (d : Int)) % 256 = ub (hexd d) := by omega
        generalize hexd d = y at e1 e3 NX
        have EQ := Lib.hid e1
        have ew : IntKind.u8.wrap ((48 : Int) + (d : Int)) = ub y := by rw [← e3]; simp [IntKind.wrap, IntKind.bits, IntKind.signed]
        have d0 : (0 : Int) ≤ 48 + (d : Int) := by omega
        clear hnx hb hm2 hdd hx16 hd hm hmq hlow hhigh h10 e1
        go_wp2_with (refine wpl_conv rfl 23 9 _ rfl (.string ⟨#[y]⟩) (run_str _ _ 1 1 [y] (src_box wr (ub y) _ rfl)) ?_)
        go_roundw
        case measure => simp [intOf]; omega
        case rel => exact ⟨j + 1, mq, ⟨#[y]⟩ ++ x, by omega, rfl, rfl, by go_num, M2.out, by rw [ba_append]; exact NX.out, LB.out.alloc LB.out.size _⟩
      · have e1 := hhigh h10
        have e2 : ¬ (d : Int) < 10 := by omega
        have e2' : (10 : Int) ≤ (d : Int) := by omega
        generalize hexd d = y at e1 NX
        clear hnx hb hm2 hdd hx16 hd hm hmq hlow hhigh h10
        go_wp2_with (refine wpl_conv rfl 23 9 _ rfl (.string ⟨#[y]⟩) (run_str _ _ 1 1 [y] (src_box wr (ub y) _ rfl)) ?_)
        go_roundw
        case measure => simp [intOf]; omega
        case rel => exact ⟨j + 1, mq, ⟨#[y]⟩ ++ x, by omega, rfl, rfl, by go_num, M2.out, by rw [ba_append]; exact NX.out, LB.out.alloc LB.out.size _⟩
    · have hjk : j = k := by omega
      subst hjk
      have he : x = ⟨r.toArray⟩ := ba_ext (by rw [hd.one HR.out])
      subst he
      have LB := Lib.hid hb
      clear hb hd hm m0 m1
      go_wp2
      go_ret
      exact ⟨rfl, LB.out⟩
theorem wput_digs {b : Nat} (hb : b < 18446744073709551616) (h : fmay b = true) : Digs b 16 (wput b) := by
  refine ⟨wput_len hb h, ?_⟩
  rw [wput_num h, show (16 : Nat) ^ 16 = 18446744073709551616 by decide, Nat.mod_eq_of_lt hb]
set_option maxHeartbeats 1600000 in
theorem rput_any (W : World) (b : Nat) (hb : b < 18446744073709551616) : Calls Tryz.prog 27 #[.float .f64 b] W fun e W' => e = .returned (.string ⟨(wput b).toArray⟩) ∧ Below W.heap.size W W' := by
  have cM := rmay_any W b hb
  obtain ⟨p, hp⟩ : ∃ p : ByteArray, p = ⟨(wput b).toArray⟩ := ⟨_, rfl⟩
  rw [← hp]
  cases hm : fmay b
  · rw [hm] at cM
    have h2 : p = ⟨#[]⟩ := by rw [hp, wput_not hm]
    subst h2
    clear hp hm hb
    go_enter Tryz.func27, Tryz.ntmps27
    go_wp2_with (go_at_call 22; refine cM.mono ?_; rintro e w' ⟨rfl, n, rfl⟩)
    go_ret
    exact ⟨rfl, below_drewN' (Below.refl _ _) _⟩
  · rw [hm] at cM
    have cB := fun w => rbits_any w b
    unfold fbits at cB
    rw [fmay_nan hm] at cB
    simp only [cond_false] at cB
    have cD := fun w => rdigits_any w b 16 hb (by omega) (wput b) (wput_digs hb hm)
    rw [← hp] at cD
    have CD : Hid (∀ w, Calls Tryz.prog 72 #[.int .u64 b, .int .i64 16] w fun e W' => e = .returned (.string p) ∧ Below w.heap.size w W') := Lib.hid cD
    clear hp hm hb cD
    go_enter Tryz.func27, Tryz.ntmps27
    go_wp2_with (first
      | (go_at_call 22; refine cM.mono ?_; rintro e w' ⟨rfl, n, rfl⟩)
      | (go_at_call 26; refine (cB _).mono ?_; rintro e w' ⟨rfl, hw⟩; replace hw := hw.symm; subst hw)
      | (go_at_call 72; refine (CD.out _).mono ?_; rintro e w2 ⟨rfl, hb⟩; have L2 := Lib.hid ((below_drewN' (Below.refl W.heap.size W) _).trans hb); clear hb))
    go_ret
    exact ⟨rfl, L2.out⟩
theorem isHexL_hnum (l : List UInt8) : (isHexL l = true → hnum l = some (hnum l |>.getD 0) ∧ numU l = (hnum l).getD 0 % 18446744073709551616) ∧ (isHexL l = false → hnum l = none) := by
  obtain ⟨k, hk⟩ : ∃ k, k = l.length := ⟨_, rfl⟩
  induction k generalizing l with
  | zero =>
    have := List.length_eq_zero_iff.mp hk.symm
    subst this
    exact ⟨fun _ => ⟨rfl, rfl⟩, fun h => by simp [isHexL] at h⟩
  | succ k ih =>
    rcases List.eq_nil_or_concat l with rfl | ⟨m, c, rfl⟩
    · simp at hk
    simp only [List.concat_eq_append, List.length_append, List.length_cons, List.length_nil] at hk ⊢
    obtain ⟨i1, i2⟩ := ih m (by omega)
    rw [isHexL_append, hnum_snoc, numU_snoc]
    have hc1 : isHexL [c] = decide (0 ≤ hv c) := by simp [isHexL]
    rw [hc1]
    cases hm : isHexL m
    · rw [i2 hm]
      exact ⟨fun h => by simp at h, fun _ => rfl⟩
    · obtain ⟨j1, j2⟩ := i1 hm
      by_cases hc : 0 ≤ hv c
      · have hn : ¬ hv c < 0 := by omega
        rw [j1]
        simp only [hstep, Option.bind_some, hn, if_false, Option.getD_some]
        refine ⟨fun _ => ⟨trivial, ?_⟩, fun h => by simp [hc] at h⟩
        rw [j2]
        omega
      · have hn : hv c < 0 := by omega
        rw [j1]
        exact ⟨fun h => by simp [hc] at h, fun _ => by simp [hstep, hn]⟩
def rgetT (l : List UInt8) : Value := .tuple #[.float .f64 (rgetV l).1, .bool (rgetV l).2]
set_option maxRecDepth 20000 in
set_option maxHeartbeats 1600000 in
theorem rget_any (W : World) (s : ByteArray) (hs : s.size ≤ 1048576) : Calls Tryz.prog 28 #[.string s] W fun e W' => e = .returned (rgetT s.data.toList) ∧ Below W.heap.size W W' := by
  have h1 := run_frombits
  have cN := fun w => numberU_any w s s.data.toList rfl hs
  obtain ⟨i1, i2⟩ := isHexL_hnum s.data.toList
  have hz := ba_size s
  have hlt := numU_lt s.data.toList
  unfold rgetT
  by_cases h16 : s.size = 16
  · have z1 : ((s.size : Int) != 16) = false := by rw [h16]; rfl
    cases hx : isHexL s.data.toList
    · rw [hx] at cN
      have hv : rgetV s.data.toList = (0, false) := by unfold rgetV; rw [i2 hx]
      rw [hv]
      unfold numUR at cN
      rw [hx] at cN
      simp only [Bool.false_eq_true, if_false] at cN
      have CN := Lib.hid cN
      clear cN i1 i2 hz hlt hv hx h16 hs
      go_enter Tryz.func28, Tryz.ntmps28
      go_wp2_with (go_at_call 73; refine (CN.out _).mono ?_; rintro e w' ⟨rfl, hw⟩; replace hw := hw.symm; subst hw)
      go_ret2
      exact ⟨rfl, Below.refl _ _⟩
    · rw [hx] at cN
      obtain ⟨j1, j2⟩ := i1 hx
      obtain ⟨n, hn⟩ : ∃ n, n = (hnum s.data.toList).getD 0 := ⟨_, rfl⟩
      rw [← hn] at j1 j2
      have hn64 : n < 18446744073709551616 := by
        have := hnum_lt s.data.toList 16 (by omega) n (by rw [List.take_of_length_le (by omega)]; exact j1)
        rwa [show (16 : Nat) ^ 16 = 18446744073709551616 by decide] at this
      have cM := fun w => rmay_any w n hn64
      have hv : rgetV s.data.toList = bif fmay n then (n, true) else (0, false) := by
        unfold rgetV
        rw [j1]
        simp only [← hz, h16, decide_true, Bool.true_and]
      rw [hv]
      unfold numUR at cN
      rw [hx, if_pos rfl, j2, Nat.mod_eq_of_lt hn64] at cN
      have CN := Lib.hid cN
      cases hm : fmay n
      · rw [hm] at cM
        have CM := Lib.hid cM
        clear cM cN i1 i2 j1 j2 hn hz hlt hv hx h16 hs hn64 hm
        go_enter Tryz.func28, Tryz.ntmps28
        go_wp2_with (first
          | (go_at_call 73; refine (CN.out _).mono ?_; rintro e w' ⟨rfl, hw⟩; replace hw := hw.symm; subst hw)
          | (go_at_call 22; refine (CM.out _).mono ?_; rintro e w' ⟨rfl, n, rfl⟩))
        go_ret2
        exact ⟨rfl, below_drewN' (Below.refl _ _) _⟩
      · rw [hm] at cM
        have CM := Lib.hid cM
        clear cM cN i1 i2 j1 j2 hn hz hlt hv hx h16 hs hn64 hm
        go_enter Tryz.func28, Tryz.ntmps28
        go_wp2_with (first
          | (go_at_call 73; refine (CN.out _).mono ?_; rintro e w' ⟨rfl, hw⟩; replace hw := hw.symm; subst hw)
          | (go_at_call 22; refine (CM.out _).mono ?_; rintro e w' ⟨rfl, n, rfl⟩))
        go_ret2
        exact ⟨rfl, below_drewN' (Below.refl _ _) _⟩
  · have z1 : ((s.size : Int) != 16) = true := by rw [bne_iff_ne]; omega
    have hv : rgetV s.data.toList = (0, false) := by
      unfold rgetV
      cases hnum s.data.toList with
      | none => rfl
      | some n => simp only [← hz, decide_eq_false h16, Bool.false_and, cond_false]
    rw [hv]
    obtain ⟨n, hn⟩ : ∃ n, n = numUR s.data.toList := ⟨_, rfl⟩
    obtain ⟨o, ho⟩ : ∃ o, o = isHexL s.data.toList := ⟨_, rfl⟩
    simp only [← hn, ← ho] at cN
    have CN := Lib.hid cN
    clear cN i1 i2 hz hlt hv h16 hs hn ho
    go_enter Tryz.func28, Tryz.ntmps28
    go_wp2_with (go_at_call 73; refine (CN.out _).mono ?_; rintro e w' ⟨rfl, hw⟩; replace hw := hw.symm; subst hw)
    go_ret2
    exact ⟨rfl, Below.refl _ _⟩
end Go.Proofs.YtmnndehoopmmaaaGreatDoor
