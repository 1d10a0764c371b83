/- WhenSize: the walk of the law's body. -/
import Derived.Test.YtpfoohfgochaiaaGreatDoorBe
import Derived.Test.YtpfoohfgochaiaaGreatDoorRy
import Derived.Deep.DeepCutAuto
namespace Go.Proofs.YtpfoohfgochaiaaGreatDoor
open Go.RowKit
set_option maxHeartbeats 400000 in
theorem text_ws (W : World) (s : ByteArray) (n : Nat) : Calls Tryz.prog 40 #[.string s, .int .i64 n] W fun e W' => e = .returned (.string ⟨(s.data.toList.take n).toArray⟩) ∧ W' = W := by
  have e : (⟨(s.data.toList.take n).toArray⟩ : ByteArray) = s.extract 0 (min (s.size : Int) (n : Int)).toNat := by
    refine ba_ext ?_
    rw [show (min (s.size : Int) (n : Int)).toNat = min s.size n by omega, ba_upto, ba_size]
    rw [← List.take_take]
    exact (List.take_of_length_le (by rw [List.length_take]; omega)).symm
  rw [e]
  clear e
  have l0 : (0 : Int) ≤ min (s.size : Int) (n : Int) := by omega
  have l1 : min (s.size : Int) (n : Int) ≤ (s.size : Int) := by omega
  go_enter Tryz.func40, Tryz.ntmps40
  go_wp2
  go_ret
  exact ⟨rfl, rfl⟩
/-- A number cut down by a mask. -/
theorem and_mask (n : Int) (m : Nat) (h : m < 9223372036854775808) : ∃ q : Nat, q ≤ m ∧ bits .and .i64 n (m : Int) = (q : Int) := by
  refine ⟨(BitVec.ofInt 64 n).toNat &&& m, Nat.and_le_right, ?_⟩
  show IntKind.i64.wrap (((BitVec.ofInt 64 n &&& BitVec.ofInt 64 (m : Int)).toNat : Nat) : Int) = _
  have e : (BitVec.ofInt 64 (m : Int)).toNat = m := by
    rw [BitVec.toNat_ofInt]
    omega
  rw [BitVec.toNat_and, e, IntKind.wrap_i64]
  have : (BitVec.ofInt 64 n).toNat &&& m ≤ m := Nat.and_le_right
  omega
def DecPost (k : Nat) (W : World) (e : Ending) (W' : World) : Prop := ∃ s : ByteArray, e = .returned (.string s) ∧ (s.size : Int) ≤ k + 1 ∧ Below W.heap.size W W'
set_option maxRecDepth 20000 in
set_option maxHeartbeats 1600000 in
theorem dec_small (n : Nat) (W : World) (h : n < 10) : Calls Tryz.prog 41 #[.int .i64 n] W (DecPost 0 W) := by
  have n1 : (n : Int) < 10 := by omega
  obtain ⟨x, hx⟩ : ∃ x : UInt8, x = UInt8.ofNat (48 + n) := ⟨_, rfl⟩
  have e1 : ((48 : Int) + (n : Int)) % 256 = ub x := by
    rw [hx]
    unfold ub
    rw [UInt8.toNat_ofNat']
    omega
  have e2 : IntKind.u8.wrap ((48 : Int) + (n : Int)) = ub x := by
    rw [← e1]
    simp [IntKind.wrap, IntKind.bits, IntKind.signed]
  have n0 : (0 : Int) ≤ 48 + (n : Int) := by omega
  clear h hx
  go_enter Tryz.func41, Tryz.ntmps41
  go_wp2_with (refine wpl_conv rfl 22 9 _ rfl (.string ⟨#[x]⟩) (run_str _ _ 1 1 [x] (src_box W (ub x) _ rfl)) ?_)
  go_ret
  exact ⟨_, rfl, by simp [ByteArray.size], (Below.refl _ _).alloc (Nat.le_refl _) _⟩
set_option maxRecDepth 20000 in
set_option maxHeartbeats 1600000 in
theorem dec_any (k : Nat) : ∀ (n : Nat) (W : World), n < 10 ^ (k + 1) → k ≤ 6 → Calls Tryz.prog 41 #[.int .i64 n] W (DecPost k W) := by
  induction k with
  | zero => intro n W h _; exact dec_small n W (by simpa using h)
  | succ k ih =>
    intro n W h hk
    by_cases hn : n < 10
    · refine (ih n W (Nat.lt_of_lt_of_le hn (by rw [Nat.pow_succ]; have := Nat.pow_pos (n := k) (show 0 < 10 by omega); omega)) (by omega)).mono ?_
      rintro e W' ⟨s, he, hs, hb⟩
      exact ⟨s, he, by omega, hb⟩
    · obtain ⟨a, ha⟩ : ∃ a, a = n / 10 := ⟨_, rfl⟩
      obtain ⟨b, hb⟩ : ∃ b, b = n % 10 := ⟨_, rfl⟩
      have cA := fun W => ih a W (by rw [ha, Nat.pow_succ] at *; omega) (by omega)
      have cB := fun W => ih b W (by rw [hb]; have := Nat.pow_pos (n := k) (show 0 < 10 by omega); rw [Nat.pow_succ]; omega) (by omega)
      have CA := Lib.hid cA
      have CB := Lib.hid cB
      have n1 : ¬ (n : Int) < 10 := by omega
      have x1 : (n : Int).tdiv 10 = (a : Int) := by rw [Int.tdiv_eq_ediv_of_nonneg (by omega)]; omega
      have x2 : (n : Int).tmod 10 = (b : Int) := by rw [Int.tmod_eq_emod_of_nonneg (by omega)]; omega
      have y1 : (n : Int) / 10 = (a : Int) := by omega
      have y2 : (n : Int) % 10 = (b : Int) := by omega
      have b10 : b < 10 := by omega
      have cB2 : ∀ W, Calls Tryz.prog 41 #[.int .i64 b] W (DecPost 0 W) := fun W => dec_small b W b10
      have k6 : (k : Int) ≤ 6 := by omega
      have hp : 10 ^ (k + 1 + 1) ≤ 10 ^ 7 := Nat.pow_le_pow_right (by omega) (by omega)
      have h7 : (10 : Nat) ^ 7 = 10000000 := by decide
      have a7 : (a : Int) < 10000000 := by omega
      have b7 : (b : Int) < 10 := by omega
      have wa : wrap64 (a : Int) = (a : Int) := by unfold wrap64; omega
      have wb : wrap64 (b : Int) = (b : Int) := by unfold wrap64; omega
      clear hp h7 a7 b7
      clear cA cB ha hb hn h
      go_enter Tryz.func41, Tryz.ntmps41
      go_wp2_with (first
        | (have _t := B1; clear _t; go_at_call 41; refine (cB2 _).mono ?_; rintro e w2 ⟨s2, rfl, z2, hb2⟩; have B2 := Lib.hid (B1.out.trans (hb2.mono B1.out.size)); clear hb2)
        | (go_at_call 41; refine (CA.out _).mono ?_; rintro e w1 ⟨s1, rfl, z1, hb1⟩; have B1 := Lib.hid hb1; clear hb1))
      have zz : ((s1 ++ s2).size : Int) ≤ ((k + 1 : Nat) : Int) + 1 := by
        rw [ByteArray.size_append]
        omega
      have ZZ := Lib.hid zz
      clear zz z1 z2 x1 x2 y1 y2 wa wb n1 b10 k6 ih cB2 CA CB
      go_ret
      exact ⟨s1 ++ s2, rfl, ZZ.out, B2.out⟩
set_option maxRecDepth 20000 in
set_option maxHeartbeats 8000000 in
theorem whenSize_any (W : World) (s : ByteArray) (n m how : Int) (hG : Gl W) : Calls Tryz.prog 7 #[.string s, .int .i64 n, .int .i64 m, .int .i64 how] W fun e W' => e = .returned (.bool true) ∧ Below W.heap.size W W' := by
  obtain ⟨qn, hn, hn2⟩ := and_mask n 1048575 (by omega)
  obtain ⟨qm, hm, hm2⟩ := and_mask m 1023 (by omega)
  obtain ⟨qh, hh, hh2⟩ := and_mask how 7 (by omega)
  have en : bits BinOp.and IntKind.i64 n 1048575 = (qn : Int) := hn2
  have em : bits BinOp.and IntKind.i64 m 1023 = (qm : Int) := hm2
  have eh : bits BinOp.and IntKind.i64 how 7 = (qh : Int) := hh2
  have hbe := begun_any W hG
  have HB := Lib.hid hbe
  have HG := Lib.hid hG
  have cN := fun W => dec_any 6 qn W (Nat.lt_of_le_of_lt hn (by decide)) (by omega)
  have cM := fun W => dec_any 6 qm W (Nat.lt_of_le_of_lt hm (by decide)) (by omega)
  have CN := Lib.hid cN
  have CM := Lib.hid cM
  obtain ⟨t, ht⟩ : ∃ t : ByteArray, t = ⟨(s.data.toList.take 15).toArray⟩ := ⟨_, rfl⟩
  have cT : ∀ w, Calls Tryz.prog 40 #[.string s, .int .i64 15] w fun e w' => e = .returned (.string t) ∧ w' = w := fun w => by rw [ht]; exact text_ws w s 15
  have tz : (t.size : Int) ≤ 15 := by rw [ba_size, ht]; simp only [List.length_take]; omega
  clear hbe hG hn2 hm2 hh2 cN cM ht hn hm
  go_enter Tryz.func7, Tryz.ntmps7
  go_upto_region 6 with (first
      | (go_at_call 23; refine HB.out.mono ?_; rintro e w1 ⟨rfl, hb⟩; have L1 := Lib.hid hb; clear hb)
      | (go_at_call 40; refine (cT _).mono ?_; rintro e w' ⟨rfl, hw⟩; replace hw := hw.symm; subst hw))
  clear en em
  go_cut [10] (fun v wr => ∃ x : ByteArray, v = .string x ∧ (x.size : Int) ≤ 20 ∧ Below W.heap.size W wr)
  case first =>
    have hq : qh = 0 ∨ qh = 1 ∨ qh = 2 ∨ qh = 3 ∨ qh = 4 ∨ qh = 5 ∨ qh = 6 ∨ qh = 7 := by omega
    have e46 : (ByteArray.mk #[46]).size = 1 := rfl
    have e107 : (ByteArray.mk #[107]).size = 1 := rfl
    have e109 : (ByteArray.mk #[109]).size = 1 := rfl
    have E := Lib.hid (And.intro e46 (And.intro e107 e109))
    clear e46 e107 e109
    rcases hq with rfl | rfl | rfl | rfl | rfl | rfl | rfl | rfl
    all_goals
      go_wp2_with (go_at_call 41; refine (CM.out _).mono ?_; rintro e w2 ⟨s2, rfl, z2, hb2⟩; have L1 := Lib.hid (L1.out.trans (hb2.mono L1.out.size)); clear hb2)
      go_meet
      refine ⟨_, rfl, ?_, L1.out.alloc L1.out.size _⟩
      obtain ⟨e46, e107, e109⟩ := E.out
      first
        | (simp only [ByteArray.size_append, e46, e107, e109]; omega)
        | (simp [ByteArray.size])
  case rest =>
    obtain ⟨x, rfl, xz, hb⟩ := hcut
    have LR := Lib.hid hb
    have GR := Lib.hid (HG.out.below hb)
    clear hb L1 CM eh
    have e48 : (ByteArray.mk #[48]).size = 1 := rfl
    have E48 := Lib.hid e48
    clear e48
    go_wp2_with (first
      | (have _t := C2; clear _t; go_at_call 41; refine (CN.out _).mono ?_; rintro e w3 ⟨s3, rfl, z3, h3⟩; have C3 := Lib.hid (C2.out.trans (h3.mono C2.out.size)); clear h3)
      | (have _t := C1; clear _t; go_at_call 41; refine (CN.out _).mono ?_; rintro e w2 ⟨s2, rfl, z2, h2⟩; have C2 := Lib.hid (C1.out.trans (h2.mono C1.out.size)); clear h2)
      | (go_at_call 41; refine (CN.out _).mono ?_; rintro e w1 ⟨s1, rfl, z1, h1⟩; have C1 := Lib.hid (LR.out.trans (h1.mono LR.out.size)); clear h1))
    have q48 := E48.out
    have Q : ∃ a b c d : ByteArray, (a.size : Int) ≤ 1000 ∧ (b.size : Int) ≤ 1000 ∧ (c.size : Int) ≤ 1000 ∧ (d.size : Int) ≤ 1000 ∧ a = t ∧ b = s1 ++ x ∧ c = { data := #[48] } ++ s2 ∧ d = s3 ++ x ++ x := ⟨_, _, _, _, by omega, by rw [ByteArray.size_append]; omega, by rw [ByteArray.size_append, q48]; omega, by rw [ByteArray.size_append, ByteArray.size_append]; omega, rfl, rfl, rfl, rfl⟩
    obtain ⟨a, b, c, d, za, zb, zc, zd, ea, eb, ec, ed⟩ := Q
    rw [← ea, ← eb, ← ec, ← ed]
    have BQ := Lib.hid (Blk.new w3 9 [.string a, .string b, .string c, .string d])
    have L4 := Lib.hid (C3.out.alloc C3.out.size (.cells #[.string a, .string b, .string c, .string d] 9))
    have G4 := Lib.hid (HG.out.below L4.out)
    have ZQ := Lib.hid (And.intro za (And.intro zb (And.intro zc zd)))
    clear ea eb ec ed za zb zc zd z1 z2 z3 q48 xz tz C1 C2
    have B4 : Hid (Blk (w3.alloc (.cells #[.string a, .string b, .string c, .string d] 9)) w3.heap.size 9 [.string a, .string b, .string c, .string d]) := Lib.hid BQ.out
    clear BQ
    generalize w3.alloc (.cells #[.string a, .string b, .string c, .string d] 9) = w4 at L4 G4 B4 ⊢
    generalize w3.heap.size = g at B4 ⊢
    go_loopw [58] (fun i wr => ∃ k : Nat, k ≤ 4 ∧ i = .int .i64 k ∧ Blk wr g 9 [.string a, .string b, .string c, .string d] ∧ Below W.heap.size W wr ∧ Gl wr) (fun i _ => 4 - (intOf i).toNat)
    case atStart => exact ⟨0, by omega, rfl, B4.out, L4.out, G4.out⟩
    case round =>
      obtain ⟨k, hk, rfl, hB, hL, hGl⟩ := hrel
      clear B4 L4 G4
      by_cases hlt : k < 4
      · have l1 : (k : Int) < 4 := by omega
        have hcell : ∃ y : ByteArray, wr.cell? ⟨g, k, none⟩ = some (.string y) ∧ (y.size : Int) ≤ 1000 := by
          obtain ⟨za, zb, zc, zd⟩ := ZQ.out
          have h4 : k = 0 ∨ k = 1 ∨ k = 2 ∨ k = 3 := by omega
          rcases h4 with rfl | rfl | rfl | rfl
          · exact ⟨a, hB.cell 0 _ rfl, za⟩
          · exact ⟨b, hB.cell 1 _ rfl, zb⟩
          · exact ⟨c, hB.cell 2 _ rfl, zc⟩
          · exact ⟨d, hB.cell 3 _ rfl, zd⟩
        obtain ⟨y, hy, hyz⟩ := hcell
        have cP := size_any wr y (by omega) hGl
        have cR := fun w => refSize_any w y y.data.toList rfl (by omega)
        obtain ⟨f, hf⟩ : ∃ f, f = (sizeR y.data.toList).1 := ⟨_, rfl⟩
        obtain ⟨o, ho⟩ : ∃ o, o = (sizeR y.data.toList).2 := ⟨_, rfl⟩
        rw [← hf, ← ho] at cP
        simp only [← hf, ← ho] at cR
        have CP := Lib.hid cP
        have CR := Lib.hid cR
        have BB := Lib.hid hB
        have LL := Lib.hid hL
        have GG := Lib.hid hGl
        have h1 := run_bits
        clear cP cR hB hL hGl hf ho hyz
        cases o
        all_goals
          go_wp2_with (first
            | (go_at_call 42; refine CP.out.mono ?_; rintro e w5 ⟨rfl, hb⟩; have B5 := Lib.hid hb; clear hb)
            | (go_at_call 43; refine (CR.out _).mono ?_; rintro e w6 ⟨rfl, m6, rfl⟩))
          go_roundw
          case measure => simp [intOf]; omega
          case rel => exact ⟨k + 1, by omega, by go_num, (BB.out.below B5.out).drewN _, below_drewN' (LL.out.trans (B5.out.mono LL.out.size)) _, GG.out.below (below_drewN' B5.out _)⟩
      · have hk' : k = 4 := by omega
        subst hk'
        go_wp2
        go_ret
        exact ⟨rfl, hL⟩
end Go.Proofs.YtpfoohfgochaiaaGreatDoor
