/- The document's times as digits, and back: Put, Get tell what the program's tell. The document's answer for a name: its digits in tens, the name of what is encoded. -/
import Derived.Test.YtcomibocajjhoaaGreatDoorP4x
import Derived.Test.YtcomibocajjhoaaGreatDoorP8x
import Derived.Test.YtcomibocajjhoaaGreatDoorIg
import Derived.Test.YtcomibocajjhoaaGreatDoorP6x
import Derived.Test.YtcomibocajjhoaaGreatDoorOo
namespace Go.Proofs.YtcomibocajjhoaaGreatDoor
open Go.RowKit
theorem fold_shift (l : List UInt8) (a m : Nat) (h : hnum l = some m) : l.foldl hstep (some a) = some (a * 16 ^ l.length + m) := by
  obtain ⟨k, hk⟩ : ∃ k, k = l.length := ⟨_, rfl⟩
  induction k generalizing l m with
  | zero =>
    have := List.length_eq_zero_iff.mp hk.symm
    subst this
    simp [hnum] at h ⊢
    omega
  | succ k ih =>
    rcases List.eq_nil_or_concat l with rfl | ⟨l', c, rfl⟩
    · simp at hk
    simp only [List.concat_eq_append, List.length_append, List.length_cons, List.length_nil] at hk h ⊢
    obtain ⟨h1, h2, h3⟩ := hnum_snoc_some h
    rw [List.foldl_append, ih l' _ h1 (by omega)]
    have : ¬ hv c < 0 := by omega
    simp only [List.foldl_cons, List.foldl_nil, hstep, Option.bind_some, this, if_false, h3]
    congr 1
    rw [Nat.pow_succ, ← Nat.mul_assoc]
    generalize a * 16 ^ l'.length = z
    omega
theorem hnum_cons (d : Nat) (hd : d < 16) (l : List UInt8) (m : Nat) (h : hnum l = some m) : hnum (hexd d :: l) = some (d * 16 ^ l.length + m) := by
  have h2 : hstep (some 0) (hexd d) = some d := by
    have := hv_hexd d hd
    simp only [hstep, Option.bind_some]
    rw [this, if_neg (by omega)]
    congr 1
    omega
  unfold hnum
  rw [List.foldl_cons, h2]
  exact fold_shift l d m h
/-- The low digits of a number: just so many. -/
def Digs (n k : Nat) (l : List UInt8) : Prop := l.length = k ∧ hnum l = some (n % 16 ^ k)
theorem Digs.next {n i : Nat} {l : List UInt8} (h : Digs n i l) : Digs n (i + 1) (hexd (n / 16 ^ i % 16) :: l) := by
  refine ⟨by simp [h.1], ?_⟩
  rw [hnum_cons _ (by omega) l _ h.2, h.1, Nat.pow_succ, Nat.mod_mul, Nat.mul_comm (n / 16 ^ i % 16), Nat.add_comm]
theorem Digs.one {n k : Nat} {l m : List UInt8} (h1 : Digs n k l) (h2 : Digs n k m) : l = m := hnum_inj k l m _ h1.1 h2.1 h1.2 h2.2
def DigRel (n k : Nat) (W : World) (v s i : Value) (wr : World) : Prop := ∃ (j m : Nat) (x : ByteArray), j ≤ k ∧ v = .int .u64 m ∧ s = .string x ∧ i = .int .i64 j ∧ m = n / 16 ^ j ∧ Digs n j x.data.toList ∧ Below W.heap.size W wr
theorem wput_digs {b : Nat} (hb : b < 18446744073709551616) (h : fmay b = true) : Digs b 16 (wput b) := by
  refine ⟨wput_len hb h, ?_⟩
  rw [wput_num h, show (16 : Nat) ^ 16 = 18446744073709551616 by decide, Nat.mod_eq_of_lt hb]
theorem isHexL_hnum (l : List UInt8) : (isHexL l = true → hnum l = some (hnum l |>.getD 0) ∧ numU l = (hnum l).getD 0 % 18446744073709551616) ∧ (isHexL l = false → hnum l = none) := by
  obtain ⟨k, hk⟩ : ∃ k, k = l.length := ⟨_, rfl⟩
  induction k generalizing l with
  | zero =>
    have := List.length_eq_zero_iff.mp hk.symm
    subst this
    exact ⟨fun _ => ⟨rfl, rfl⟩, fun h => by simp [isHexL] at h⟩
  | succ k ih =>
    rcases List.eq_nil_or_concat l with rfl | ⟨m, c, rfl⟩
    · simp at hk
    simp only [List.concat_eq_append, List.length_append, List.length_cons, List.length_nil] at hk ⊢
    obtain ⟨i1, i2⟩ := ih m (by omega)
    rw [isHexL_append, hnum_snoc, numU_snoc]
    have hc1 : isHexL [c] = decide (0 ≤ hv c) := by simp [isHexL]
    rw [hc1]
    cases hm : isHexL m
    · rw [i2 hm]
      exact ⟨fun h => by simp at h, fun _ => rfl⟩
    · obtain ⟨j1, j2⟩ := i1 hm
      by_cases hc : 0 ≤ hv c
      · have hn : ¬ hv c < 0 := by omega
        rw [j1]
        simp only [hstep, Option.bind_some, hn, if_false, Option.getD_some]
        refine ⟨fun _ => ⟨trivial, ?_⟩, fun h => by simp [hc] at h⟩
        rw [j2]
        omega
      · have hn : hv c < 0 := by omega
        rw [j1]
        exact ⟨fun h => by simp [hc] at h, fun _ => by simp [hstep, hn]⟩
def rgetT (l : List UInt8) : Value := .tuple #[.float .f64 (rgetV l).1, .bool (rgetV l).2]
end Go.Proofs.YtcomibocajjhoaaGreatDoor
namespace Go.Proofs.YtcomibocajjhoaaGreatDoor
open Go.RowKit
set_option maxRecDepth 20000 in
set_option maxHeartbeats 1600000 in
theorem rdec_small (n : Nat) (W : World) (h : n < 10) : Calls Tryz.prog 64 #[.int .i64 n] W fun e W' => e = .returned (.string ⟨(Lib.decDigits n).toArray⟩) ∧ Below W.heap.size W W' := by
  have n1 : (n : Int) < 10 := by omega
  obtain ⟨x, hx⟩ : ∃ x : UInt8, x = UInt8.ofNat (48 + n) := ⟨_, rfl⟩
  have e1 : ((48 : Int) + (n : Int)) % 256 = ub x := by
    rw [hx]
    unfold ub
    rw [UInt8.toNat_ofNat']
    omega
  have e2 : IntKind.u8.wrap ((48 : Int) + (n : Int)) = ub x := by
    rw [← e1]
    simp [IntKind.wrap, IntKind.bits, IntKind.signed]
  have n0 : (0 : Int) ≤ 48 + (n : Int) := by omega
  have ed : Lib.decDigits n = [x] := by rw [Lib.decDigits, dif_pos h, hx]
  rw [ed]
  clear h hx ed
  go_enter Tryz.func64, Tryz.ntmps64
  go_wp2_with (refine wpl_conv rfl 24 9 _ rfl (.string ⟨#[x]⟩) (run_str _ _ 1 1 [x] (src_box W (ub x) _ rfl)) ?_)
  go_ret
  exact ⟨rfl, (Below.refl _ _).alloc (Nat.le_refl _) _⟩
set_option maxRecDepth 20000 in
set_option maxHeartbeats 1600000 in
theorem rdec_any (k : Nat) : ∀ (n : Nat) (W : World), n < 10 ^ (k + 1) → k ≤ 6 → Calls Tryz.prog 64 #[.int .i64 n] W fun e W' => e = .returned (.string ⟨(Lib.decDigits n).toArray⟩) ∧ Below W.heap.size W W' := by
  induction k with
  | zero => intro n W h _; exact rdec_small n W (by simpa using h)
  | succ k ih =>
    intro n W h hk
    by_cases hn : n < 10
    · exact rdec_small n W hn
    · obtain ⟨a, ha⟩ : ∃ a, a = n / 10 := ⟨_, rfl⟩
      obtain ⟨b, hb⟩ : ∃ b, b = n % 10 := ⟨_, rfl⟩
      have b10 : b < 10 := by omega
      have cA := fun W => ih a W (by rw [ha, Nat.pow_succ] at *; omega) (by omega)
      have cB := fun W => rdec_small b W b10
      have hp : 10 ^ (k + 1 + 1) ≤ 10 ^ 7 := Nat.pow_le_pow_right (by omega) (by omega)
      have h7 : (10 : Nat) ^ 7 = 10000000 := by decide
      obtain ⟨s1, es1⟩ : ∃ s1 : ByteArray, s1 = ⟨(Lib.decDigits a).toArray⟩ := ⟨_, rfl⟩
      obtain ⟨s2, es2⟩ : ∃ s2 : ByteArray, s2 = ⟨(Lib.decDigits b).toArray⟩ := ⟨_, rfl⟩
      have z1 : s1.size ≤ 20 := by rw [es1]; exact dec_len _ (by omega)
      have z2 : s2.size ≤ 20 := by rw [es2]; exact dec_len _ (by omega)
      have hss : s1 ++ s2 = ⟨(Lib.decDigits n).toArray⟩ := by
        refine ba_ext ?_
        rw [ba_append, es1, es2]
        show Lib.decDigits a ++ Lib.decDigits b = Lib.decDigits n
        conv => rhs; rw [Lib.decDigits, dif_neg hn]
        rw [ha, Lib.decDigits.eq_1 b, dif_pos b10, hb]
      rw [← es1] at cA
      rw [← es2] at cB
      rw [← hss]
      have CA := Lib.hid cA
      have CB := Lib.hid cB
      have n1 : ¬ (n : Int) < 10 := by omega
      have x1 : (n : Int).tdiv 10 = (a : Int) := by rw [Int.tdiv_eq_ediv_of_nonneg (by omega)]; omega
      have x2 : (n : Int).tmod 10 = (b : Int) := by rw [Int.tmod_eq_emod_of_nonneg (by omega)]; omega
      have y1 : (n : Int) / 10 = (a : Int) := by omega
      have y2 : (n : Int) % 10 = (b : Int) := by omega
      have a7 : (a : Int) < 10000000 := by omega
      have b7 : (b : Int) < 10 := by omega
      have wa : wrap64 (a : Int) = (a : Int) := by unfold wrap64; omega
      have wb : wrap64 (b : Int) = (b : Int) := by unfold wrap64; omega
      clear hp h7 a7 b7 b10 es1 es2 hss
      clear cA cB ha hb hn h ih
      go_enter Tryz.func64, Tryz.ntmps64
      go_wp2_with (first
        | (have _t := B1; clear _t; go_at_call 64; refine (CB.out _).mono ?_; rintro e w2 ⟨rfl, hb2⟩; have B2 := Lib.hid (B1.out.trans (hb2.mono B1.out.size)); clear hb2)
        | (go_at_call 64; refine (CA.out _).mono ?_; rintro e w1 ⟨rfl, hb1⟩; have B1 := Lib.hid hb1; clear hb1))
      go_ret
      exact ⟨rfl, B2.out⟩
/-- A name's block in a call of one's own. -/
theorem rid_blk {W w1 w2 : World} (h1 : Below (W.alloc (.cells zero32.toArray 30)).heap.size (W.alloc (.cells zero32.toArray 30)) w1) (h2 : Below w1.heap.size w1 w2) : Blk w2 W.heap.size 30 zero32 ∧ Below W.heap.size W w2 := by
  have l0 : Below W.heap.size W (W.alloc (.cells zero32.toArray 30)) := (Below.refl _ _).alloc (Nat.le_refl _) _
  have s1 := l0.size
  have s2 := h1.size
  exact ⟨((Blk.new W 30 zero32).below h1).below h2, (l0.trans (h1.mono s1)).trans (h2.mono (by omega))⟩
set_option maxRecDepth 100000 in
set_option maxHeartbeats 1600000 in
theorem rid_any (W : World) (k : Int) (s : ByteArray) (l : List UInt8) (hl : l = s.data.toList) (hs : s.size ≤ 1000000) : Calls Tryz.prog 39 #[.int .i64 k, .string s] W fun e W' => e = .returned (.agg (Bs (sha256 (ofL k l))).toArray) ∧ Below W.heap.size W W' := by
  have z32 := z32_eq
  have hz := ba_size s
  obtain ⟨d, hd⟩ : ∃ d : ByteArray, d = ⟨(Lib.decDigits s.size).toArray⟩ := ⟨_, rfl⟩
  have hd20 : d.size ≤ 20 := by rw [hd]; exact dec_len _ (by omega)
  have hi := fun W => rdec_any 6 s.size W (by omega) (by omega)
  rw [← hd] at hi
  have hcall : ∀ (pre : ByteArray), pre = wordB k ++ ⟨#[32]⟩ → ∀ W, Calls Tryz.prog 63 #[.string (pre ++ d ++ ⟨#[0]⟩ ++ s)] W fun e W' => e = .returned (.agg (Bs (sha256 (ofL k l))).toArray) ∧ Below W.heap.size W W' := by
    intro pre hp W
    refine refSum_any W _ (ofL k l) ?_ _ rfl ?_
    · rw [hp]; simp only [ba_append]; rw [hd, hl, hz]; rfl
    · have := wordB_size k
      rw [hp]; simp only [ByteArray.size_append]
      have e1 : (ByteArray.mk #[32]).size = 1 := rfl
      have e2 : (ByteArray.mk #[0]).size = 1 := rfl
      omega
  have hlen : (sha256 (ofL k l)).length = 32 := sha256_length _
  have hk : wordB k ++ ⟨#[32]⟩ = if k = 1 then (⟨#[98, 108, 111, 98, 32]⟩ : ByteArray) else if k = 2 then ⟨#[116, 114, 101, 101, 32]⟩ else if k = 3 then ⟨#[99, 111, 109, 109, 105, 116, 32]⟩ else ⟨#[63, 32]⟩ := by
    unfold wordB
    split
    · rfl
    · split
      · rfl
      · split
        · rfl
        · rfl
  rw [hk] at hcall
  generalize sha256 (ofL k l) = r at hcall hlen ⊢
  have HI := Lib.hid hi
  have HL := Lib.hid hlen
  have hsz5 : (s.size : Int) ≤ 1000000 := by omega
  clear hd hi hk hlen hz hl
  by_cases h1 : k = 1
  · subst h1
    have HC := Lib.hid (hcall _ rfl)
    clear hcall
    go_enter Tryz.func39, Tryz.ntmps39
    go_wp2_with (first
      | (go_at_call 64; refine (HI.out _).mono ?_; rintro e w1 ⟨rfl, hb⟩; have B1 := Lib.hid hb; clear hb)
      | (go_at_call 63; refine (HC.out _).mono ?_; rintro e w2 ⟨rfl, hb⟩; have B2 := Lib.hid hb; clear hb)
      | (refine wpl_store rfl 30 (.tmp 4) _ rfl W.heap.size (Bs r) rfl rfl 30 zero32 (rid_blk B1.out B2.out).1 (by rw [Tryz.sizeId]; simp [HL.out]) (by simp [zero32, HL.out]) (Bs_one _) ?_))
    obtain ⟨hb1, hb2⟩ := rid_blk B1.out B2.out
    refine bodyPost_ret (v := .agg (Bs r).toArray) (res_row rfl _ _ W.heap.size 30 _ 32 5 rfl (hb1.row _) Tryz.underlying30 (by rw [Tryz.sizeId]; simp [HL.out])) rfl ⟨rfl, below_setRow' hb2 (Nat.le_refl _) _⟩
  rw [if_neg h1] at hcall
  by_cases h2 : k = 2
  · subst h2
    clear h1
    have HC := Lib.hid (hcall _ rfl)
    clear hcall
    go_enter Tryz.func39, Tryz.ntmps39
    go_wp2_with (first
      | (go_at_call 64; refine (HI.out _).mono ?_; rintro e w1 ⟨rfl, hb⟩; have B1 := Lib.hid hb; clear hb)
      | (go_at_call 63; refine (HC.out _).mono ?_; rintro e w2 ⟨rfl, hb⟩; have B2 := Lib.hid hb; clear hb)
      | (refine wpl_store rfl 30 (.tmp 4) _ rfl W.heap.size (Bs r) rfl rfl 30 zero32 (rid_blk B1.out B2.out).1 (by rw [Tryz.sizeId]; simp [HL.out]) (by simp [zero32, HL.out]) (Bs_one _) ?_))
    obtain ⟨hb1, hb2⟩ := rid_blk B1.out B2.out
    refine bodyPost_ret (v := .agg (Bs r).toArray) (res_row rfl _ _ W.heap.size 30 _ 32 5 rfl (hb1.row _) Tryz.underlying30 (by rw [Tryz.sizeId]; simp [HL.out])) rfl ⟨rfl, below_setRow' hb2 (Nat.le_refl _) _⟩
  rw [if_neg h2] at hcall
  by_cases h3 : k = 3
  · subst h3
    clear h1 h2
    have HC := Lib.hid (hcall _ rfl)
    clear hcall
    go_enter Tryz.func39, Tryz.ntmps39
    go_wp2_with (first
      | (go_at_call 64; refine (HI.out _).mono ?_; rintro e w1 ⟨rfl, hb⟩; have B1 := Lib.hid hb; clear hb)
      | (go_at_call 63; refine (HC.out _).mono ?_; rintro e w2 ⟨rfl, hb⟩; have B2 := Lib.hid hb; clear hb)
      | (refine wpl_store rfl 30 (.tmp 4) _ rfl W.heap.size (Bs r) rfl rfl 30 zero32 (rid_blk B1.out B2.out).1 (by rw [Tryz.sizeId]; simp [HL.out]) (by simp [zero32, HL.out]) (Bs_one _) ?_))
    obtain ⟨hb1, hb2⟩ := rid_blk B1.out B2.out
    refine bodyPost_ret (v := .agg (Bs r).toArray) (res_row rfl _ _ W.heap.size 30 _ 32 5 rfl (hb1.row _) Tryz.underlying30 (by rw [Tryz.sizeId]; simp [HL.out])) rfl ⟨rfl, below_setRow' hb2 (Nat.le_refl _) _⟩
  rw [if_neg h3] at hcall
  · skip
    have HC := Lib.hid (hcall _ rfl)
    clear hcall
    go_enter Tryz.func39, Tryz.ntmps39
    go_wp2_with (first
      | (go_at_call 64; refine (HI.out _).mono ?_; rintro e w1 ⟨rfl, hb⟩; have B1 := Lib.hid hb; clear hb)
      | (go_at_call 63; refine (HC.out _).mono ?_; rintro e w2 ⟨rfl, hb⟩; have B2 := Lib.hid hb; clear hb)
      | (refine wpl_store rfl 30 (.tmp 4) _ rfl W.heap.size (Bs r) rfl rfl 30 zero32 (rid_blk B1.out B2.out).1 (by rw [Tryz.sizeId]; simp [HL.out]) (by simp [zero32, HL.out]) (Bs_one _) ?_))
    obtain ⟨hb1, hb2⟩ := rid_blk B1.out B2.out
    refine bodyPost_ret (v := .agg (Bs r).toArray) (res_row rfl _ _ W.heap.size 30 _ 32 5 rfl (hb1.row _) Tryz.underlying30 (by rw [Tryz.sizeId]; simp [HL.out])) rfl ⟨rfl, below_setRow' hb2 (Nat.le_refl _) _⟩
end Go.Proofs.YtcomibocajjhoaaGreatDoor
