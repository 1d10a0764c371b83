/- LineEdge: the walk of the law's body. -/
import Derived.Test.YtpfoohfgochaiaaGreatDoorLq
import Derived.Test.YtpfoohfgochaiaaGreatDoorBe
import Derived.Test.YtpfoohfgochaiaaGreatDoorMk
namespace Go.Proofs.YtpfoohfgochaiaaGreatDoor
open Go.RowKit
set_option maxRecDepth 20000 in
set_option maxHeartbeats 4000000 in
theorem lineEdge_any (W : World) (n c : Int) (h0 : 0 ≤ c) (h1 : c < 256) (hG : Gl W) :
    Calls Tryz.prog 13 #[.int .i64 n, .int .u8 c] W fun e W' => e = .returned (.bool true) ∧ Below W.heap.size W W' := by
  obtain ⟨x, rfl⟩ := ub_of c h0 h1
  have hbe := begun_any W hG
  have HB := Lib.hid hbe
  have HG := Lib.hid hG
  clear hbe hG h0 h1
  obtain ⟨q0, hq0, he⟩ := tmod_round n 20 (by omega) (by omega)
  obtain ⟨q, hq⟩ : ∃ q, q = 990 + q0 := ⟨_, rfl⟩
  have hq1 : (990 : Int) + (q0 : Int) = (q : Int) := by omega
  have hqw : wrap64 ((990 : Int) + (q0 : Int)) = (q : Int) := by unfold wrap64; omega
  have hqb : 990 ≤ q ∧ q < 1010 := by omega
  clear hq hq0
  go_enter Tryz.func13, Tryz.ntmps13
  go_upto_region 4 with (first
      | (go_at_call 23; refine HB.out.mono ?_; rintro e w1 ⟨rfl, hb⟩; have L1 := Lib.hid hb; clear hb))
  have hmk := run_make_bytes w1 q (by omega)
  have B0 := Blk.new w1 5 (Bs (List.replicate q 0))
  have L2 := Lib.hid (L1.out.alloc L1.out.size (.cells (Bs (List.replicate q 0)).toArray 5))
  go_upto_region 6 with fail
  clear hmk he hq1 hqw
  obtain ⟨f, hf⟩ : ∃ f : Nat → UInt8, f = fun _ => x := ⟨_, rfl⟩
  have HF : Hid (∀ k, f k = x) := Lib.hid (fun k => by rw [hf])
  have HW := Lib.hid L1.out.size
  generalize w1.alloc (.cells (Bs (List.replicate q 0)).toArray 5) = w2 at B0 L2 ⊢
  generalize w1.heap.size = g at B0 HW ⊢
  clear hf L1
  have B1 : Hid (Blk w2 g 5 (Bs (fillF f q 0))) := Lib.hid (by rw [fillF_zero]; exact B0)
  clear B0
  go_wp2
  go_loopw [26] (fun i wr => ∃ k : Nat, k ≤ q ∧ i = .int .i64 k ∧ Blk wr g 5 (Bs (fillF f q k)) ∧ Below W.heap.size W wr) (fun i _ => q - (intOf i).toNat)
  case atStart => exact ⟨0, by omega, rfl, B1.out, L2.out⟩
  case round =>
    obtain ⟨k, hk, rfl, hB, hL⟩ := hrel
    clear B1 L2
    by_cases hlt : k < q
    · have l1 : (k : Int) < (q : Int) := by omega
      have c1 := hB.cell k (.int .u8 0) (by rw [Bs_at _ _ (by rw [fillF_len f q k hk]; exact hlt), fillF_at f q k hlt]; rfl)
      have c2 := hB.frozen k
      have HBk := Lib.hid hB
      have HL := Lib.hid hL
      clear hB hL
      go_wp2
      go_roundw
      case measure => simp [intOf]; omega
      case rel =>
        have h9 := HBk.out.setCell k (.int .u8 (ub (f k)))
        rw [Bs_set, fillF_set f q k hlt, HF.out k] at h9
        exact ⟨k + 1, by omega, by go_num, h9, HL.out.setCell HW.out _⟩
    · have hk' : k = q := by omega
      subst hk'
      obtain ⟨l, hl⟩ : ∃ l, l = fillF f k k := ⟨_, rfl⟩
      rw [← hl] at hB
      have hll : l.length = k := by rw [hl]; exact fillF_len f k k (by omega)
      obtain ⟨t, ht⟩ : ∃ t : ByteArray, t = ⟨l.toArray⟩ := ⟨_, rfl⟩
      have htl : t.data.toList = l := by rw [ht]
      have htz : t.size ≤ 140737488355328 := by rw [ba_size, htl, hll]; omega
      have HTL := Lib.hid htl
      have HT := Lib.hid ht
      have HLL := Lib.hid hll
      have SB := Lib.hid (hB.src (Bs_one _) k (by rw [Bs_length]; exact hll))
      have HL := Lib.hid hL
      have DW : Hid (Deb wr) := Lib.hid (HG.out.deb.belowB hL HG.out.deb.lt)
      have hcv : ∀ w, Below wr.heap.size wr w → (convert 22 9 (.slice (some ⟨g, 0, none⟩) k k)).run Tryz.prog w = .ok (.string t) w := fun w hw => by rw [HT.out]; exact run_str _ _ _ _ _ (src_below SB.out hw)
      have HCV := Lib.hid hcv
      clear hB hL hl hlt hk ht htl hll hcv
      by_cases hk1 : k ≤ 1000
      · have k1 : (k : Int) ≤ 1000 := by omega
        obtain ⟨p, hp⟩ : ∃ p : ByteArray, p = ⟨(hx4 (k + 4) ++ l).toArray⟩ := ⟨_, rfl⟩
        have cP : ∀ w, Deb w → Calls Tryz.prog 45 #[.string t] w fun e w' => e = .returned (.tuple #[.string p, .bool true]) ∧ Below w.heap.size w w' := fun w hd => by
          have := lput_any w t htz hd
          rw [HTL.out] at this
          have e : putL l = (hx4 (k + 4) ++ l, true) := by unfold putL; rw [if_pos (by rw [HLL.out]; omega), HLL.out]
          rwa [e, ← hp] at this
        have hpl : p.data.toList = hx4 (k + 4) ++ l := by rw [hp]
        have hpz : (p.size : Int) = (k : Int) + 4 := by rw [ba_size, hpl, List.length_append, HLL.out, hx4_len]; omega
        have cG : ∀ w, Deb w → Calls Tryz.prog 55 #[.string p] w fun e w' => e = .returned (.tuple #[.int .i64 1, .string t, .int .i64 ((k : Int) + 4), .int .i64 0]) ∧ Below w.heap.size w w' := fun w hd => by
          have := get_any w p (by omega) hd
          have e := getR_put l [] (by rw [HLL.out]; omega) (by rw [HLL.out]; omega)
          rw [List.append_nil, HLL.out] at e
          rw [hpl, e] at this
          have e2 : getV (1, l, k + 4, 0) = .tuple #[.int .i64 1, .string t, .int .i64 ((k : Int) + 4), .int .i64 0] := by rw [HT.out]; rfl
          rwa [e2] at this
        have CP := Lib.hid cP
        have CG := Lib.hid cG
        clear cP cG hp hpl htz
        have hc0 := HCV.out wr (Below.refl _ _)
        go_upto_region 14 with (first
          | (go_at_call 45; refine (CP.out _ DW.out).mono ?_; rintro e w4 ⟨rfl, hb⟩; have B4 := Lib.hid hb; have D4 : Hid (Deb w4) := Lib.hid (DW.out.below hb); clear hb))
        go_upto_region 15 with (first
          | (go_at_call 55; refine (CG.out _ D4.out).mono ?_; rintro e w5 ⟨rfl, hb⟩; have B5 := Lib.hid (B4.out.trans (hb.mono B4.out.size)); clear hb))
        have hc5 := HCV.out w5 B5.out
        go_wp2
        go_ret
        exact ⟨rfl, HL.out.trans (B5.out.mono HL.out.size)⟩
      · have k1 : ¬ (k : Int) ≤ 1000 := by omega
        have k2 : (1000 : Int) < (k : Int) := by omega
        have cP : ∀ w, Deb w → Calls Tryz.prog 45 #[.string t] w fun e w' => e = .returned (.tuple #[.string ⟨#[]⟩, .bool false]) ∧ Below w.heap.size w w' := fun w hd => by
          have := lput_any w t htz hd
          rw [HTL.out] at this
          have e : putL l = ([], false) := by unfold putL; rw [if_neg (by rw [HLL.out]; omega)]
          rwa [e] at this
        have CP := Lib.hid cP
        clear cP htz
        have hc0 := HCV.out wr (Below.refl _ _)
        go_wp2_with (first
          | (go_at_call 45; refine (CP.out _ DW.out).mono ?_; rintro e w4 ⟨rfl, hb⟩; have B4 := Lib.hid hb; clear hb))
        go_ret
        exact ⟨rfl, HL.out.trans (B4.out.mono HL.out.size)⟩
end Go.Proofs.YtpfoohfgochaiaaGreatDoor
