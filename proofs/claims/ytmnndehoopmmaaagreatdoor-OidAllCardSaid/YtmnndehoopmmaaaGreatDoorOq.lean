/- The document's answer for a name: its digits in tens, the name of what is encoded. -/
import Derived.Test.YtmnndehoopmmaaaGreatDoorOo
import Derived.Test.YtmnndehoopmmaaaGreatDoorRs
import Derived.Test.YtmnndehoopmmaaaGreatDoorRg
namespace Go.Proofs.YtmnndehoopmmaaaGreatDoor
open Go.RowKit
set_option maxRecDepth 20000 in
set_option maxHeartbeats 1600000 in
theorem rdec_small (n : Nat) (W : World) (h : n < 10) : Calls Tryz.prog 83 #[.int .i64 n] W fun e W' => e = .returned (.string ⟨(Lib.decDigits n).toArray⟩) ∧ Below W.heap.size W W' := by
  have n1 : (n : Int) < 10 := by omega
  obtain ⟨x, hx⟩ : ∃ x : UInt8, x = UInt8.ofNat (48 + n) := ⟨_, rfl⟩
  have e1 : ((48 : Int) + (n : Int)) % 256 = ub x := by
    rw [hx]
    unfold ub
    rw [UInt8.toNat_ofNat']
    omega
  have e2 : IntKind.u8.wrap ((48 : Int) + (n : Int)) = ub x := by
    rw [← e1]
    simp [IntKind.wrap, IntKind.bits, IntKind.signed]
  have n0 : (0 : Int) ≤ 48 + (n : Int) := by omega
  have ed : Lib.decDigits n = [x] := by rw [Lib.decDigits, dif_pos h, hx]
  rw [ed]
  clear h hx ed
  go_enter Tryz.func83, Tryz.ntmps83
  go_wp2_with (refine wpl_conv rfl 23 9 _ rfl (.string ⟨#[x]⟩) (run_str _ _ 1 1 [x] (src_box W (ub x) _ rfl)) ?_)
  go_ret
  exact ⟨rfl, (Below.refl _ _).alloc (Nat.le_refl _) _⟩
set_option maxRecDepth 20000 in
set_option maxHeartbeats 1600000 in
theorem rdec_any (k : Nat) : ∀ (n : Nat) (W : World), n < 10 ^ (k + 1) → k ≤ 6 → Calls Tryz.prog 83 #[.int .i64 n] W fun e W' => e = .returned (.string ⟨(Lib.decDigits n).toArray⟩) ∧ Below W.heap.size W W' := by
  induction k with
  | zero => intro n W h _; exact rdec_small n W (by simpa using h)
  | succ k ih =>
    intro n W h hk
    by_cases hn : n < 10
    · exact rdec_small n W hn
    · obtain ⟨a, ha⟩ : ∃ a, a = n / 10 := ⟨_, rfl⟩
      obtain ⟨b, hb⟩ : ∃ b, b = n % 10 := ⟨_, rfl⟩
      have b10 : b < 10 := by omega
      have cA := fun W => ih a W (by rw [ha, Nat.pow_succ] at *; omega) (by omega)
      have cB := fun W => rdec_small b W b10
      have hp : 10 ^ (k + 1 + 1) ≤ 10 ^ 7 := Nat.pow_le_pow_right (by omega) (by omega)
      have h7 : (10 : Nat) ^ 7 = 10000000 := by decide
      obtain ⟨s1, es1⟩ : ∃ s1 : ByteArray, s1 = ⟨(Lib.decDigits a).toArray⟩ := ⟨_, rfl⟩
      obtain ⟨s2, es2⟩ : ∃ s2 : ByteArray, s2 = ⟨(Lib.decDigits b).toArray⟩ := ⟨_, rfl⟩
      have z1 : s1.size ≤ 20 := by rw [es1]; exact dec_len _ (by omega)
      have z2 : s2.size ≤ 20 := by rw [es2]; exact dec_len _ (by omega)
      have hss : s1 ++ s2 = ⟨(Lib.decDigits n).toArray⟩ := by
        refine ba_ext ?_
        rw [ba_append, es1, es2]
        show Lib.decDigits a ++ Lib.decDigits b = Lib.decDigits n
        conv => rhs; rw [Lib.decDigits, dif_neg hn]
        rw [ha, Lib.decDigits.eq_1 b, dif_pos b10, hb]
      rw [← es1] at cA
      rw [← es2] at cB
      rw [← hss]
      have CA := Lib.hid cA
      have CB := Lib.hid cB
      have n1 : ¬ (n : Int) < 10 := by omega
      have x1 : (n : Int).tdiv 10 = (a : Int) := by rw [Int.tdiv_eq_ediv_of_nonneg (by omega)]; omega
      have x2 : (n : Int).tmod 10 = (b : Int) := by rw [Int.tmod_eq_emod_of_nonneg (by omega)]; omega
      have y1 : (n : Int) / 10 = (a : Int) := by omega
      have y2 : (n : Int) % 10 = (b : Int) := by omega
      have a7 : (a : Int) < 10000000 := by omega
      have b7 : (b : Int) < 10 := by omega
      have wa : wrap64 (a : Int) = (a : Int) := by unfold wrap64; omega
      have wb : wrap64 (b : Int) = (b : Int) := by unfold wrap64; omega
      clear hp h7 a7 b7 b10 es1 es2 hss
      clear cA cB ha hb hn h ih
      go_enter Tryz.func83, Tryz.ntmps83
      go_wp2_with (first
        | (have _t := B1; clear _t; go_at_call 83; refine (CB.out _).mono ?_; rintro e w2 ⟨rfl, hb2⟩; have B2 := Lib.hid (B1.out.trans (hb2.mono B1.out.size)); clear hb2)
        | (go_at_call 83; refine (CA.out _).mono ?_; rintro e w1 ⟨rfl, hb1⟩; have B1 := Lib.hid hb1; clear hb1))
      go_ret
      exact ⟨rfl, B2.out⟩
/-- A name's block in a call of one's own. -/
theorem rid_blk {W w1 w2 : World} (h1 : Below (W.alloc (.cells zero32.toArray 51)).heap.size (W.alloc (.cells zero32.toArray 51)) w1) (h2 : Below w1.heap.size w1 w2) : Blk w2 W.heap.size 51 zero32 ∧ Below W.heap.size W w2 := by
  have l0 : Below W.heap.size W (W.alloc (.cells zero32.toArray 51)) := (Below.refl _ _).alloc (Nat.le_refl _) _
  have s1 := l0.size
  have s2 := h1.size
  exact ⟨((Blk.new W 51 zero32).below h1).below h2, (l0.trans (h1.mono s1)).trans (h2.mono (by omega))⟩
set_option maxRecDepth 100000 in
set_option maxHeartbeats 1600000 in
theorem rid_any (W : World) (k : Int) (s : ByteArray) (l : List UInt8) (hl : l = s.data.toList) (hs : s.size ≤ 1000000) : Calls Tryz.prog 41 #[.int .i64 k, .string s] W fun e W' => e = .returned (.agg (Bs (sha256 (ofL k l))).toArray) ∧ Below W.heap.size W W' := by
  have z32 := z32_eq
  have hz := ba_size s
  obtain ⟨d, hd⟩ : ∃ d : ByteArray, d = ⟨(Lib.decDigits s.size).toArray⟩ := ⟨_, rfl⟩
  have hd20 : d.size ≤ 20 := by rw [hd]; exact dec_len _ (by omega)
  have hi := fun W => rdec_any 6 s.size W (by omega) (by omega)
  rw [← hd] at hi
  have hcall : ∀ (pre : ByteArray), pre = wordB k ++ ⟨#[32]⟩ → ∀ W, Calls Tryz.prog 82 #[.string (pre ++ d ++ ⟨#[0]⟩ ++ s)] W fun e W' => e = .returned (.agg (Bs (sha256 (ofL k l))).toArray) ∧ Below W.heap.size W W' := by
    intro pre hp W
    refine refSum_any W _ (ofL k l) ?_ _ rfl ?_
    · rw [hp]; simp only [ba_append]; rw [hd, hl, hz]; rfl
    · have := wordB_size k
      rw [hp]; simp only [ByteArray.size_append]
      have e1 : (ByteArray.mk #[32]).size = 1 := rfl
      have e2 : (ByteArray.mk #[0]).size = 1 := rfl
      omega
  have hlen : (sha256 (ofL k l)).length = 32 := sha256_length _
  have hk : wordB k ++ ⟨#[32]⟩ = if k = 1 then (⟨#[98, 108, 111, 98, 32]⟩ : ByteArray) else if k = 2 then ⟨#[116, 114, 101, 101, 32]⟩ else if k = 3 then ⟨#[99, 111, 109, 109, 105, 116, 32]⟩ else ⟨#[63, 32]⟩ := by
    unfold wordB
    split
    · rfl
    · split
      · rfl
      · split
        · rfl
        · rfl
  rw [hk] at hcall
  generalize sha256 (ofL k l) = r at hcall hlen ⊢
  have HI := Lib.hid hi
  have HL := Lib.hid hlen
  have hsz5 : (s.size : Int) ≤ 1000000 := by omega
  clear hd hi hk hlen hz hl
  by_cases h1 : k = 1
  · subst h1
    have HC := Lib.hid (hcall _ rfl)
    clear hcall
    go_enter Tryz.func41, Tryz.ntmps41
    go_wp2_with (first
      | (go_at_call 83; refine (HI.out _).mono ?_; rintro e w1 ⟨rfl, hb⟩; have B1 := Lib.hid hb; clear hb)
      | (go_at_call 82; refine (HC.out _).mono ?_; rintro e w2 ⟨rfl, hb⟩; have B2 := Lib.hid hb; clear hb)
      | (refine wpl_store rfl 51 (.tmp 4) _ rfl W.heap.size (Bs r) rfl rfl 51 zero32 (rid_blk B1.out B2.out).1 (by rw [Tryz.sizeId]; simp [HL.out]) (by simp [zero32, HL.out]) (Bs_one _) ?_))
    obtain ⟨hb1, hb2⟩ := rid_blk B1.out B2.out
    refine bodyPost_ret (v := .agg (Bs r).toArray) (res_row rfl _ _ W.heap.size 51 _ 32 5 rfl (hb1.row _) Tryz.underlying51 (by rw [Tryz.sizeId]; simp [HL.out])) rfl ⟨rfl, below_setRow' hb2 (Nat.le_refl _) _⟩
  rw [if_neg h1] at hcall
  by_cases h2 : k = 2
  · subst h2
    clear h1
    have HC := Lib.hid (hcall _ rfl)
    clear hcall
    go_enter Tryz.func41, Tryz.ntmps41
    go_wp2_with (first
      | (go_at_call 83; refine (HI.out _).mono ?_; rintro e w1 ⟨rfl, hb⟩; have B1 := Lib.hid hb; clear hb)
      | (go_at_call 82; refine (HC.out _).mono ?_; rintro e w2 ⟨rfl, hb⟩; have B2 := Lib.hid hb; clear hb)
      | (refine wpl_store rfl 51 (.tmp 4) _ rfl W.heap.size (Bs r) rfl rfl 51 zero32 (rid_blk B1.out B2.out).1 (by rw [Tryz.sizeId]; simp [HL.out]) (by simp [zero32, HL.out]) (Bs_one _) ?_))
    obtain ⟨hb1, hb2⟩ := rid_blk B1.out B2.out
    refine bodyPost_ret (v := .agg (Bs r).toArray) (res_row rfl _ _ W.heap.size 51 _ 32 5 rfl (hb1.row _) Tryz.underlying51 (by rw [Tryz.sizeId]; simp [HL.out])) rfl ⟨rfl, below_setRow' hb2 (Nat.le_refl _) _⟩
  rw [if_neg h2] at hcall
  by_cases h3 : k = 3
  · subst h3
    clear h1 h2
    have HC := Lib.hid (hcall _ rfl)
    clear hcall
    go_enter Tryz.func41, Tryz.ntmps41
    go_wp2_with (first
      | (go_at_call 83; refine (HI.out _).mono ?_; rintro e w1 ⟨rfl, hb⟩; have B1 := Lib.hid hb; clear hb)
      | (go_at_call 82; refine (HC.out _).mono ?_; rintro e w2 ⟨rfl, hb⟩; have B2 := Lib.hid hb; clear hb)
      | (refine wpl_store rfl 51 (.tmp 4) _ rfl W.heap.size (Bs r) rfl rfl 51 zero32 (rid_blk B1.out B2.out).1 (by rw [Tryz.sizeId]; simp [HL.out]) (by simp [zero32, HL.out]) (Bs_one _) ?_))
    obtain ⟨hb1, hb2⟩ := rid_blk B1.out B2.out
    refine bodyPost_ret (v := .agg (Bs r).toArray) (res_row rfl _ _ W.heap.size 51 _ 32 5 rfl (hb1.row _) Tryz.underlying51 (by rw [Tryz.sizeId]; simp [HL.out])) rfl ⟨rfl, below_setRow' hb2 (Nat.le_refl _) _⟩
  rw [if_neg h3] at hcall
  · skip
    have HC := Lib.hid (hcall _ rfl)
    clear hcall
    go_enter Tryz.func41, Tryz.ntmps41
    go_wp2_with (first
      | (go_at_call 83; refine (HI.out _).mono ?_; rintro e w1 ⟨rfl, hb⟩; have B1 := Lib.hid hb; clear hb)
      | (go_at_call 82; refine (HC.out _).mono ?_; rintro e w2 ⟨rfl, hb⟩; have B2 := Lib.hid hb; clear hb)
      | (refine wpl_store rfl 51 (.tmp 4) _ rfl W.heap.size (Bs r) rfl rfl 51 zero32 (rid_blk B1.out B2.out).1 (by rw [Tryz.sizeId]; simp [HL.out]) (by simp [zero32, HL.out]) (Bs_one _) ?_))
    obtain ⟨hb1, hb2⟩ := rid_blk B1.out B2.out
    refine bodyPost_ret (v := .agg (Bs r).toArray) (res_row rfl _ _ W.heap.size 51 _ 32 5 rfl (hb1.row _) Tryz.underlying51 (by rw [Tryz.sizeId]; simp [HL.out])) rfl ⟨rfl, below_setRow' hb2 (Nat.le_refl _) _⟩
set_option maxRecDepth 20000 in
set_option maxHeartbeats 1600000 in
theorem rhex_any (W : World) (bs : List UInt8) (hl : bs.length = 32) : Calls Tryz.prog 42 #[.agg (Bs bs).toArray] W fun e W' => e = .returned (.string ⟨(hexL bs).toArray⟩) ∧ Below W.heap.size W W' := by
  have hB := Blk.new W 51 (Bs bs)
  have hL := (Below.refl W.heap.size W).alloc (Nat.le_refl _) (.cells (Bs bs).toArray 51)
  obtain ⟨w0, hw0⟩ : ∃ w0, w0 = W.alloc (.cells (Bs bs).toArray 51) := ⟨_, rfl⟩
  rw [← hw0] at hB hL
  have B0 := Lib.hid hB
  have LZ := Lib.hid hL
  have HL := Lib.hid hl
  clear hB hL hl
  go_enter Tryz.func42, Tryz.ntmps42
  go_upto_region 1 with fail
  rw [← hw0]
  generalize W.heap.size = g at B0 ⊢
  clear hw0
  go_wp2
  go_loopw [3, 4] (fun v i wr => ∃ (k : Nat) (x : ByteArray), k ≤ 32 ∧ i = .int .i64 k ∧ v = .string x ∧ x.data.toList = hexL (bs.take k) ∧ Below w0.heap.size w0 wr) (fun _ i _ => 32 - (intOf i).toNat)
  case atStart => exact ⟨0, ⟨#[]⟩, by omega, rfl, rfl, rfl, Below.refl _ _⟩
  case round =>
    obtain ⟨k, x, hk, rfl, rfl, hx, hb⟩ := hrel
    have BR := Lib.hid hb
    by_cases hlt : k < 32
    · have l1 : (k : Int) < 32 := by omega
      have hbl := (B0.out.below hb).cell k (.int .u8 (ub (gb bs k))) (Bs_at bs k (by have := HL.out; omega))
      have hdg : Digs (gb bs k).toNat 2 (hex2 (gb bs k)) := by
        have h1 : (gb bs k).toNat < 256 := (gb bs k).toNat_lt
        have h0 : Digs (gb bs k).toNat 0 [] := ⟨rfl, by simp [hnum, Nat.mod_one]⟩
        have h2 := h0.next.next
        rw [show (gb bs k).toNat / 16 ^ 0 % 16 = (gb bs k).toNat % 16 by simp, show (gb bs k).toNat / 16 ^ (0 + 1) % 16 = (gb bs k).toNat / 16 by rw [Nat.zero_add, Nat.pow_one]; omega] at h2
        exact h2
      have cD := fun w => rdigits_any w (gb bs k).toNat 2 (by have := (gb bs k).toNat_lt; omega) (by omega) _ hdg
      have hxs : x.size ≤ 64 := by rw [ba_size, hx, hexL_length, List.length_take]; omega
      have hnx : (x ++ ⟨(hex2 (gb bs k)).toArray⟩ : ByteArray).data.toList = hexL (bs.take (k + 1)) := by
        rw [ba_append, hx]
        have e : bs.take (k + 1) = bs.take k ++ [gb bs k] := by
          rw [List.take_add_one]
          simp [gb, List.getD_eq_getElem?_getD, show k < bs.length by have := HL.out; omega]
        rw [e, hexL_snoc]
      have u1 : (ub (gb bs k)).toNat = (gb bs k).toNat := by unfold ub; omega
      have ue : ub (gb bs k) = (((gb bs k).toNat : Nat) : Int) := rfl
      rw [ue] at hbl
      have hy2 : (⟨(hex2 (gb bs k)).toArray⟩ : ByteArray).size = 2 := rfl
      generalize (⟨(hex2 (gb bs k)).toArray⟩ : ByteArray) = y at cD hnx hy2
      have b8 : (gb bs k).toNat < 256 := (gb bs k).toNat_lt
      generalize (gb bs k).toNat = b at cD hbl b8
      have CD := Lib.hid cD
      have NX := Lib.hid hnx
      have b9 : (b : Int) < 256 := by omega
      have b0 : (0 : Int) ≤ (b : Int) := by omega
      clear cD hnx hx hb hk hdg u1 ue
      go_wp2_with (go_at_call 72; refine (CD.out _).mono ?_; rintro e w2 ⟨rfl, hb2⟩; have B2 := Lib.hid hb2; clear hb2)
      go_roundw
      case measure => simp [intOf]; omega
      case rel => exact ⟨k + 1, x ++ y, by omega, by go_num, rfl, NX.out, BR.out.trans (B2.out.mono BR.out.size)⟩
    · have : k = 32 := by omega
      subst this
      have he : x = ⟨(hexL bs).toArray⟩ := ba_ext (by rw [hx, List.take_of_length_le (by rw [HL.out]; omega)])
      subst he
      clear hx
      go_wp2
      go_ret
      exact ⟨rfl, LZ.out.trans (BR.out.mono LZ.out.size)⟩
end Go.Proofs.YtmnndehoopmmaaaGreatDoor
