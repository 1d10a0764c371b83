/- ShaLong: the walk of the law's body. -/
import Derived.Test.YtpfoohfgochaiaaGreatDoorBe
import Derived.Test.YtpfoohfgochaiaaGreatDoorMk
import Derived.Test.YtpfoohfgochaiaaGreatDoorRs
namespace Go.Proofs.YtpfoohfgochaiaaGreatDoor
open Go.RowKit
set_option maxRecDepth 20000 in
set_option maxHeartbeats 4000000 in
theorem shaLong_any (W : World) (n c : Int) (h0 : 0 ≤ c) (h1 : c < 256) (hG : Gl W) :
    Calls Tryz.prog 4 #[.int .i64 n, .int .u8 c] W fun e W' => e = .returned (.bool true) ∧ Below W.heap.size W W' := by
  obtain ⟨x, rfl⟩ := ub_of c h0 h1
  have hbe := begun_any W hG
  have HB := Lib.hid hbe
  clear hbe hG h0 h1
  go_enter Tryz.func4, Tryz.ntmps4
  go_upto_region 4 with (first
      | (go_at_call 23; refine HB.out.mono ?_; rintro e w1 ⟨rfl, hb⟩; have L1 := Lib.hid hb; clear hb))
  go_upto_region 5 with fail
  obtain ⟨q, hq, he⟩ := tmod_round n 140 (by omega) (by omega)
  rw [he]
  have q140 : q < 140 := by omega
  clear he hq
  have hmk := run_make_bytes w1 q (by omega)
  have B0 := Blk.new w1 5 (Bs (List.replicate q 0))
  have L2 := Lib.hid (L1.out.alloc L1.out.size (.cells (Bs (List.replicate q 0)).toArray 5))
  go_upto_region 6 with fail
  clear hmk
  obtain ⟨f, hf⟩ : ∃ f : Nat → UInt8, f = fun i => UInt8.ofNat (x.toNat + i) := ⟨_, rfl⟩
  have hfv : ∀ k : Nat, (ub x + (k : Int)) % 256 = ub (f k) := fun k => by
    rw [hf]
    unfold ub
    simp
  have HF := Lib.hid hfv
  have hW := L1.out.size
  have HW := Lib.hid hW
  generalize w1.alloc (.cells (Bs (List.replicate q 0)).toArray 5) = w2 at B0 L2 ⊢
  generalize w1.heap.size = g at B0 HW ⊢
  clear hf hfv hW L1
  have B1 : Hid (Blk w2 g 5 (Bs (fillF f q 0))) := Lib.hid (by rw [fillF_zero]; exact B0)
  clear B0
  go_wp2
  go_loopw [19] (fun i wr => ∃ k : Nat, k ≤ q ∧ i = .int .i64 k ∧ Blk wr g 5 (Bs (fillF f q k)) ∧ Below W.heap.size W wr) (fun i _ => q - (intOf i).toNat)
  case atStart => exact ⟨0, by omega, rfl, B1.out, L2.out⟩
  case round =>
    obtain ⟨k, hk, rfl, hB, hL⟩ := hrel
    clear B1 L2
    by_cases hlt : k < q
    · have l1 : (k : Int) < (q : Int) := by omega
      have c1 := hB.cell k (.int .u8 0) (by rw [Bs_at _ _ (by rw [fillF_len f q k hk]; exact hlt), fillF_at f q k hlt]; rfl)
      have c2 := hB.frozen k
      have HBk := Lib.hid hB
      have HL := Lib.hid hL
      clear hB hL
      go_wp2
      go_roundw
      case measure => simp [intOf]; omega
      case rel =>
        rw [HF.out k]
        have h9 := HBk.out.setCell k (.int .u8 (ub (f k)))
        rw [Bs_set, fillF_set f q k hlt] at h9
        exact ⟨k + 1, by omega, by go_num, h9, HL.out.setCell HW.out _⟩
    · have hk' : k = q := by omega
      subst hk'
      obtain ⟨l, hl⟩ : ∃ l, l = fillF f k k := ⟨_, rfl⟩
      rw [← hl] at hB
      have hll : l.length = k := by rw [hl]; exact fillF_len f k k (by omega)
      have SB := Lib.hid (hB.src (Bs_one _) k (by rw [Bs_length]; exact hll))
      have HBk := Lib.hid hB
      have HL := Lib.hid hL
      have HLL := Lib.hid hll
      have hsl := sha256_length l
      have heq : ∀ w, (binOp .eql 28 (.agg (Bs (sha256 l)).toArray) (.agg (Bs (sha256 l)).toArray)).run Tryz.prog w = .ok (.bool true) w := fun w => by
        rw [run_eql_struct, eqIn_bytes w _ Tryz.underlying28 _ _ hsl hsl, decide_eq_true rfl]; rfl
      clear hB hL hl hlt hk hsl hll
      have hcv : ∀ s : Ext wr, (convert 22 9 (.slice (some ⟨g, 0, none⟩) k k)).run Tryz.prog s.at_ = .ok (.string ⟨l.toArray⟩) s.at_ := fun s => run_str _ _ _ _ _ (src_below SB.out s.below)
      have hne := ext_nonempty wr
      go_wp2
      refine wp_region_ext (by kernel_rfl) (by kernel_rfl) ?_
      repeat (go_big_quiet_step (first
        | (go_at_call 28; exact Ext.call (shaSum_any _ _ k k l (src_below SB.out (Ext.below _)) (fun ad e => by obtain rfl := Option.some.inj e; exact Nat.lt_of_lt_of_le HBk.out.lt (Ext.below _).size) (by omega)))
        | (go_at_call 27; exact Ext.call (refSum_any _ ⟨l.toArray⟩ l rfl k HLL.out (by omega)))))
      refine wpQuiet_nil ?_
      rintro _ ⟨s9, rfl⟩
      go_wp2
      go_ret
      exact ⟨rfl, HL.out.trans (s9.below.mono HL.out.size)⟩
end Go.Proofs.YtpfoohfgochaiaaGreatDoor
