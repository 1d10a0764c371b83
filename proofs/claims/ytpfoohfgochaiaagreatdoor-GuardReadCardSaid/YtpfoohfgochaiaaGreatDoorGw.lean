/- GuardOwn: the walk of the law's body. -/
import Derived.Test.YtpfoohfgochaiaaGreatDoorBe
import Derived.Test.YtpfoohfgochaiaaGreatDoorCm
namespace Go.Proofs.YtpfoohfgochaiaaGreatDoor
open Go.RowKit
/-- Bytes tells so many, of what is there. -/
theorem bytes_any (W : World) (B g : Nat) (A : Option Addr) (c n : Nat) (bs : List UInt8) (h : RdAt W B g (.slice A bs.length c) bs) (hn : n ≤ bs.length) (hl : bs.length ≤ 140737488355328) :
    Calls Tryz.prog 38 #[.pointer (some ⟨g, 0, none⟩), .int .i64 n] W (BytesPost W B g n (.slice A bs.length c) bs) := by
  rcases Nat.eq_zero_or_pos n with h0 | h0
  · subst h0
    refine (bytes_none W g A bs.length c (h.1.cell 0 _ rfl) hl).mono ?_
    rintro e w' ⟨rfl, rfl⟩
    exact ⟨_, _, rfl, RowQ.nil _ _ _ _, h, Kept2.refl _ _ _, rfl⟩
  · exact bytes_some W B g A c n bs h h0 hn hl
theorem RdAt.kept {w w1 : World} {B g b : Nat} {v : Value} {bs : List UInt8} (h : RdAt w B g v bs) (hk : Kept2 w w1 b none) (h1 : g ≠ b) (h2 : v.ownBlock ≠ some b) : RdAt w1 B g v bs :=
  ⟨h.1.kept' hk h1, h.2.1.of_block fun k e => hk.block k (h.2.1.lt k e).2 (fun e2 => h2 (by rw [e, e2])) (fun e2 => by cases e2), h.2.2⟩
theorem below_kept2 {b : Nat} {W w w1 : World} (hb : Below W.heap.size W w) (hk : Kept2 w w1 b none) (hB : W.heap.size ≤ b) : Below W.heap.size W w1 :=
  ⟨hk.os.trans hb.os, hk.tape.trans hb.tape, hk.output.trans hb.output, Nat.le_trans hb.size hk.size, fun j hj =>
    (hk.block j (Nat.lt_of_lt_of_le hj hb.size) (by omega) (fun e => by cases e)).trans (hb.block j hj)⟩
set_option maxRecDepth 20000 in
set_option maxHeartbeats 4000000 in
theorem guardOwn_any (W : World) (A : Option Addr) (n c : Nat) (bs : List UInt8) (hs : Src W 1 A n (Bs bs)) (hc : n ≤ c) (hm : c ≤ maxLen) (hG : Gl W) :
    Calls Tryz.prog 11 #[.slice A n c] W fun e W' => e = .returned (.bool true) ∧ Below W.heap.size W W' := by
  have hbe := begun_any W hG
  have HB := Lib.hid hbe
  obtain ⟨q, hq⟩ : ∃ q : Nat, q = min n 40 := ⟨_, rfl⟩
  have hmin : min (n : Int) 40 = (q : Int) := by omega
  have hqc : (q : Int) ≤ (c : Int) := by omega
  have SQ := Lib.hid (hs.take q (by omega))
  have HC := Lib.hid hc
  have HM := Lib.hid hm
  have HQ := Lib.hid hq
  obtain ⟨l, hl⟩ : ∃ l, l = bs.take q := ⟨_, rfl⟩
  have hbt : (Bs bs).take q = Bs l := by rw [hl]; simp [Bs]
  clear hbe hG hs hc hm hq hl
  go_enter Tryz.func11, Tryz.ntmps11
  go_upto_region 4 with (first
      | (go_at_call 23; refine HB.out.mono ?_; rintro e w1 ⟨rfl, hb⟩; have L1 := Lib.hid hb; clear hb))
  go_upto_region 7 with (first
    | (at_builtin; refine wpl_append rfl (.const (.slice none 0 0)) (.tmp 17) 22 rfl w1.heap.size 5 (.int .u8 0) 1 1 Tryz.underlying22 Tryz.info5 rfl (by decide) (.slice none 0 0) 0 [] rfl (RowQ.nil _ _ _ _) A q c ((Bs bs).take q) rfl (src_below SQ.out L1.out) (by have := HQ.out; omega) (by have := HQ.out; omega) (Nat.le_refl _) ?_; intro v1 w2 hr1 hg1 _; rw [Nat.zero_add, List.nil_append, hbt] at hr1; obtain ⟨A1, c1, rfl, _, _⟩ := hr1.shape; have R1 := Lib.hid hr1; have L2 : Hid (Below W.heap.size W w2) := L1.out.grown hg1 L1.out.size (by intro k hk; simp [Value.ownBlock] at hk); clear hr1 hg1)
    | (refine wpl_conv rfl 22 9 _ rfl (.string ⟨l.toArray⟩) (run_str _ _ _ _ _ (R1.out.src (Bs_one _))) ?_)
    | (go_at_call 34; refine (gnew_row w2 w1.heap.size A1 q c1 l R1.out (by have := HQ.out; omega)).mono ?_; rintro e w3 ⟨g, v3, rfl, hg3, hrd, hb⟩; have B3 := Lib.hid hb; have G3 := Lib.hid hg3; have D3 := Lib.hid hrd; clear hb hg3 hrd))
  have hlen : l.length = q := by have := R1.out.1; simpa using this
  have hq40 : q ≤ 40 := by have := HQ.out; omega
  have HL := Lib.hid hlen
  have HQ4 := Lib.hid hq40
  have L3 := Lib.hid (L2.out.trans (B3.out.mono L2.out.size))
  have R3 := Lib.hid (R1.out.below B3.out)
  obtain ⟨gb, hgb⟩ : ∃ gb : Nat, (0 < q → ∃ o, A1 = some ⟨gb, o, none⟩) ∧ W.heap.size ≤ gb ∧ gb ≠ g ∧ v3.ownBlock ≠ some gb := by
    have s1 := L1.out.size
    have s2 := L2.out.size
    have g3 := G3.out
    have s3 := B3.out.size
    rcases Nat.eq_zero_or_pos q with h0 | h0
    · refine ⟨w3.heap.size, fun h => by omega, by omega, ?_, fun e => ?_⟩
      · have := D3.out.1.lt; omega
      · have := (D3.out.2.1.lt _ e).2; omega
    · obtain ⟨gb, o, ha, h1, h2⟩ := R1.out.blk h0
      refine ⟨gb, fun _ => ⟨o, ha⟩, by omega, by omega, fun e => ?_⟩
      have := (D3.out.2.1.lt _ e).1; omega
  have HGB := Lib.hid hgb
  clear hgb hlen hq40 hqc
  go_wp2
  go_loopw [25] (fun i wr => ∃ k : Nat, ∃ zs : List Int, k ≤ q ∧ i = .int .i64 k ∧ RowQ wr w1.heap.size 5 1 (.slice A1 q c1) q (zs.map (Value.int .u8)) ∧ Kept2 w3 wr gb none) (fun i _ => q - (intOf i).toNat)
  case atStart => exact ⟨0, l.map ub, by omega, rfl, by rw [List.map_map]; exact R3.out, Kept2.refl _ _ _⟩
  case round =>
    obtain ⟨k, zs, hk, rfl, hR, hK⟩ := hrel
    by_cases hlt : k < q
    · obtain ⟨o, rfl⟩ := HGB.out.1 (by omega)
      have hzl : zs.length = q := by have := hR.1; simpa using this
      obtain ⟨c1', f1'⟩ := hR.cellAt k hlt (.int .u8 (zs.getD k 0)) (by simp [List.getD_eq_getElem?_getD, List.getElem?_eq_getElem (show k < zs.length by omega)])
      have l1 : (k : Int) < (q : Int) := by omega
      have HR := Lib.hid hR
      have HK := Lib.hid hK
      have HLT := Lib.hid hlt
      clear hR hK hzl hk hlt
      go_wp2
      have hlt := HLT.out
      exact ⟨⟨k + 1, zs.set k _, by omega, by simp, by rw [List.map_set]; exact HR.out.setAt k HLT.out _, HK.out.setCell _ _⟩, by simp [intOf]; omega⟩
    · have hk' : k = q := by omega
      subst hk'
      have D4 := Lib.hid (D3.out.kept hK (fun e => HGB.out.2.2.1 e.symm) HGB.out.2.2.2)
      have L4 := Lib.hid (below_kept2 L3.out hK HGB.out.2.1)
      have hgW : W.heap.size ≤ g := Nat.le_trans L2.out.size G3.out
      have HGW := Lib.hid hgW
      clear hR hK hlt hk HGB D3 L3 R3 hgW
      obtain ⟨A3, c3, hv3, hc3, hm3⟩ := D4.out.2.1.shape
      subst hv3
      obtain ⟨h, hh⟩ : ∃ h : Nat, h = k / 2 := ⟨_, rfl⟩
      have e2 : (k : Int).tdiv 2 = (h : Int) := by rw [Int.tdiv_eq_ediv_of_nonneg (by omega)]; omega
      have e3 : (k : Int) / 2 = (h : Int) := by omega
      have hhk : h ≤ l.length := by rw [HL.out]; omega
      have HH := Lib.hid hh
      have cB := fun hq => bytes_any wr w2.heap.size g A3 c3 h l D4.out hhk hq
      have CB := Lib.hid (cB (by have := HL.out; have := HQ4.out; omega))
      clear cB hh
      go_upto_region 14 with (first
        | (go_at_call 38; refine CB.out.mono ?_; rintro e w5 ⟨v5, v6, rfl, hr5, hrd, hk5, ho5⟩; obtain ⟨A5, c5, rfl, hc5, hm5⟩ := hr5.shape; have R5 := Lib.hid hr5; have D5 := Lib.hid hrd; have K5 := Lib.hid hk5; have O5 := Lib.hid ho5; clear hr5 hrd hk5 ho5)
        | (refine wpl_conv rfl 22 9 _ rfl (.string ⟨(l.take h).toArray⟩) (run_str _ _ _ _ _ (R5.out.src (Bs_one _))) ?_))
      have gw := D4.out.1.lt
      have ow := D4.out.2.1.lt
      obtain ⟨gd, hgd⟩ : ∃ gd : Nat, (0 < h → ∃ o, A5 = some ⟨gd, o, none⟩) ∧ wr.heap.size ≤ gd ∧ gd ≠ g ∧ v6.ownBlock ≠ some gd := by
        have s5 := K5.out.size
        rcases Nat.eq_zero_or_pos h with h0 | h0
        · exact ⟨w5.heap.size, fun h => by omega, s5, by omega, fun e => by rw [O5.out] at e; have := ow _ e; omega⟩
        · obtain ⟨gd, o, ha, h1, h2⟩ := R5.out.blk h0
          exact ⟨gd, fun _ => ⟨o, ha⟩, h1, by omega, fun e => by rw [O5.out] at e; have := ow _ e; omega⟩
      have L5 := Lib.hid (below_kept2 L4.out K5.out HGW.out)
      have HGD := Lib.hid hgd
      have LW := Lib.hid L4.out.size
      clear hgd gw ow D4 L4
      go_wp2
      go_loopw [44] (fun i wz => ∃ j : Nat, ∃ zs : List Int, j ≤ h ∧ i = .int .i64 j ∧ RowQ wz wr.heap.size 5 1 (.slice A5 h c5) h (zs.map (Value.int .u8)) ∧ Kept2 w5 wz gd none) (fun i _ => h - (intOf i).toNat)
      case atStart => exact ⟨0, (l.take h).map ub, by omega, rfl, by rw [List.map_map]; exact R5.out, Kept2.refl _ _ _⟩
      case round =>
        obtain ⟨j, zs, hj, rfl, hR, hK⟩ := hrel
        by_cases hlt : j < h
        · obtain ⟨o, rfl⟩ := HGD.out.1 (by omega)
          have hzl : zs.length = h := by have := hR.1; simpa using this
          obtain ⟨c1', f1'⟩ := hR.cellAt j hlt (.int .u8 (zs.getD j 0)) (by simp [List.getD_eq_getElem?_getD, List.getElem?_eq_getElem (show j < zs.length by omega)])
          have l1 : (j : Int) < (h : Int) := by omega
          have l2 : (h : Int) ≤ (c5 : Int) := by omega
          have HR := Lib.hid hR
          have HK := Lib.hid hK
          have HLT := Lib.hid hlt
          clear hR hK hzl hj hlt
          go_wp2
          have hlt := HLT.out
          exact ⟨⟨j + 1, zs.set j 9, by omega, by simp, by rw [List.map_set]; exact HR.out.setAt j HLT.out _, HK.out.setCell _ _⟩, by simp [intOf]; omega⟩
        · have hj' : j = h := by omega
          subst hj'
          have D6 := Lib.hid (D5.out.kept hK (fun e => HGD.out.2.2.1 e.symm) HGD.out.2.2.2)
          have L6 := Lib.hid (below_kept2 L5.out hK (Nat.le_trans LW.out HGD.out.2.1))
          clear hR hK hlt hj HGD D5 L5 R5 K5
          obtain ⟨A6, c6, hv6, hc6, hm6⟩ := D6.out.2.1.shape
          subst hv6
          obtain ⟨r, hr⟩ : ∃ r, r = l.drop j := ⟨_, rfl⟩
          rw [← hr] at D6 hc6
          have hrl : r.length ≤ 140737488355328 := by rw [hr, List.length_drop, HL.out]; have := HQ4.out; omega
          have x6 := D6.out.1.cell 0 _ rfl
          have heq : (⟨(l.take j).toArray⟩ ++ ⟨r.toArray⟩ : ByteArray) = ⟨l.toArray⟩ := ba_ext (by rw [ba_append, hr]; simp)
          have cB := bytes_any _ w2.heap.size g A6 c6 r.length r D6.out (Nat.le_refl _) hrl
          have CB2 := Lib.hid cB
          clear cB hr
          go_wp2_with (first
            | (have _t := D7; clear _t; go_at_call 39; refine (left_any _ g A8 0 c8 (D7.out.1.cell 0 _ rfl) (by omega)).mono ?_; rintro e w' ⟨rfl, hw⟩; replace hw := hw.symm; subst hw)
            | (go_at_call 39; refine (left_any _ g A6 r.length c6 x6 hrl).mono ?_; rintro e w' ⟨rfl, hw⟩; replace hw := hw.symm; subst hw)
            | (go_at_call 38; refine CB2.out.mono ?_; rintro e w7 ⟨v7, v8, rfl, hr7, hrd, hk7, ho7⟩; rw [List.take_length] at hr7; rw [List.drop_length] at hrd; obtain ⟨A7, c7, rfl, hc7, hm7⟩ := hr7.shape; obtain ⟨A8, c8, hv8, hc8, hm8⟩ := hrd.2.1.shape; subst hv8; have R7 := Lib.hid hr7; have D7 := Lib.hid hrd; have L7 := Lib.hid (below_kept2 L6.out hk7 HGW.out); clear hr7 hrd hk7 ho7)
            | (refine wpl_conv rfl 22 9 _ rfl (.string ⟨r.toArray⟩) (run_str _ _ _ _ _ (R7.out.src (Bs_one _))) ?_))
          go_ret
          exact ⟨rfl, L7.out⟩
end Go.Proofs.YtpfoohfgochaiaaGreatDoor
