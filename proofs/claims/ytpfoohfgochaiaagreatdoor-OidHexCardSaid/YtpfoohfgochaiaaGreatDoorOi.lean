/- oid.Hex: bytes as digits. -/
import Derived.Test.YtpfoohfgochaiaaGreatDoorFb
namespace Go.Proofs.YtpfoohfgochaiaaGreatDoor
open Go.RowKit
theorem Tryz.sizeId : (Tryz.prog.info? 72).map (·.size) = some 32 := by kernel_rfl
theorem run_atId (W : World) (bs : List UInt8) (hl : bs.length = 32) (k : Nat) (h : k < 32) : (Instr.index 72 (.agg (Bs bs).toArray) (.int .i64 k)).run Tryz.prog W = .ok (.int .u8 (ub (gb bs k))) W := by
  have hu := Tryz.underlying72
  have hg : (Bs bs)[k]? = some (.int .u8 (ub (gb bs k))) := by
    simp [Bs, gb, List.getD_eq_getElem?_getD, hl, h]
  unfold Instr.index
  simp [go_sem, h]
  rw [hg]
  rfl
def hi4 (b : UInt8) : Nat := b.toNat / 16
def lo4 (b : UInt8) : Nat := b.toNat % 16
theorem hi4_lt (b : UInt8) : hi4 b < 16 := by have := b.toNat_lt; unfold hi4; omega
theorem lo4_lt (b : UInt8) : lo4 b < 16 := by unfold lo4; omega
theorem hi4_eq (b : UInt8) : ub b / 16 = (hi4 b : Int) := by unfold ub hi4; omega
theorem lo4_eq (b : UInt8) : bits .and .u8 (ub b) 15 = (lo4 b : Int) := and15 b
theorem digit_of (n : Nat) (h : n < digitsB.size) : ((digitsB[n]'h).toNat : Int) = ub (hexd n) := by
  have h16 : n < 16 := h
  have := digits_at n h16
  rw [getElem?_pos digitsB n h] at this
  injection this with this
  rw [this]; rfl
theorem src_box2 (w : World) (x y : Int) (k : Nat) (hk : w.heap.size = k) : Src (w.alloc (.cells #[.int .u8 x, .int .u8 y] 5)) 1 (some ⟨k, 0, none⟩) 2 [.int .u8 x, .int .u8 y] := by
  subst hk
  refine ⟨rfl, fun _ => ⟨_, rfl, fun j u hu => ?_⟩, by intro u hu; simp at hu; rcases hu with rfl | rfl <;> rfl⟩
  have := (Blk.new w 5 [.int .u8 x, .int .u8 y]).cell j u (by simpa using hu)
  have e : (⟨w.heap.size, 0, none⟩ : Addr).add j = ⟨w.heap.size, j, none⟩ := by unfold Addr.add; split <;> simp_all
  rw [e]; exact this
theorem hex_round {w : World} {base : Nat} {v : Value} (bs : List UInt8) (k : Nat) (hk : k < 32) (hl : bs.length = 32)
    (h : RowQ w base 5 1 v (2 * k + 2) (Bs (hexL (bs.take k)) ++ [.int .u8 (ub (hexd (hi4 (gb bs k)))), .int .u8 (ub (hexd (lo4 (gb bs k))))])) : RowQ w base 5 1 v (2 * (k + 1)) (Bs (hexL (bs.take (k + 1)))) := by
  have e : bs.take (k + 1) = bs.take k ++ [gb bs k] := by
    rw [List.take_succ_eq_append_getElem (by omega)]
    simp [gb, List.getD_eq_getElem?_getD, hl, hk]
  rw [e, hexL_snoc, Bs_append]
  exact h
theorem grown_low {B : Nat} {W w w1 : World} {row : Option Nat} (hb : Below B W w) (hs : B ≤ w.heap.size) (hg : w.grownBy w1 row) (hr : ∀ k, row = some k → B ≤ k) : Below B W w1 := hb.grown hg hs hr
set_option maxRecDepth 100000 in
set_option maxHeartbeats 1000000 in
theorem hex_any (W : World) (bs : List UInt8) (hl : bs.length = 32) : Calls Tryz.prog 60 #[.agg (Bs bs).toArray] W fun e W' => e = .returned (.string ⟨(hexL bs).toArray⟩) ∧ Below W.heap.size W W' := by
  have hb : (Bs bs).length = 32 := by simp [hl]
  obtain ⟨cs, hcs⟩ : ∃ cs, cs = Bs bs := ⟨_, rfl⟩
  rw [← hcs]
  have HL := Lib.hid hl
  have HC := Lib.hid hcs
  clear hl hcs hb
  go_enter Tryz.func60, Tryz.ntmps60
  go_wp2_with (refine wpl_load rfl 72 (.tmp 1) rfl W.heap.size rfl 72 cs (Blk.new W _ _) 32 5 Tryz.underlying72 (by rw [Tryz.sizeId, HC.out]; simp [HL.out]) ?_)
  generalize hW0 : W.alloc (.cells cs.toArray 72) = W0
  have B0 : Hid (Below W.heap.size W W0) := by rw [← hW0]; exact (Below.refl _ _).alloc (Nat.le_refl _) _
  clear hW0
  go_loopw [3, 7] (fun v i wr => ∃ k : Nat, k ≤ 32 ∧ i = .int .i64 k ∧ RowQ wr W.heap.size 5 1 v (2 * k) (Bs (hexL (bs.take k))) ∧ Below W.heap.size W wr) (fun _ i _ => 32 - (intOf i).toNat)
  case atStart => exact ⟨0, by omega, rfl, RowQ.nil _ _ _ _, B0.out⟩
  case round =>
    obtain ⟨k, hk, rfl, hr, hb⟩ := hrel
    clear B0
    obtain ⟨A2, c2, rfl, hc2, hm2⟩ := hr.shape
    have R2 := Lib.hid hr
    have B2 := Lib.hid hb
    clear hr hb
    by_cases h32 : k = 32
    · subst h32
      go_wp2_with (refine wpl_conv rfl 22 9 _ rfl (.string ⟨(hexL (bs.take 32)).toArray⟩) (run_str _ _ _ _ _ (R2.out.src (Bs_one _))) ?_)
      go_ret
      exact ⟨by rw [List.take_of_length_le (by rw [HL.out]; omega)]; rfl, B2.out⟩
    · have hlt : k < 32 := by omega
      have l1 : (k : Int) < 32 := by omega
      go_wp2_with (refine wpl_index rfl 72 _ _ rfl (.int .u8 (ub (gb bs k))) (by rw [show Act.eval _ _ = Value.agg (Bs bs).toArray from by rw [← HC.out]; rfl]; exact run_atId _ bs HL.out k hlt) ?_)
      have q1 := hi4_eq (gb bs k)
      have q2 := lo4_eq (gb bs k)
      have b3 : (hi4 (gb bs k) : Int) < 16 := by have := hi4_lt (gb bs k); omega
      have b4 : (lo4 (gb bs k) : Int) < 16 := by have := lo4_lt (gb bs k); omega
      have q3 : ∀ n h, (((({ data := #[48, 49, 50, 51, 52, 53, 54, 55, 56, 57, 97, 98, 99, 100, 101, 102] } : ByteArray)[n]'h).toNat : Nat) : Int) = ub (hexd n) := fun n h => digit_of n h
      go_region_law (first | (refine step_append_Q rfl (.tmp 10) (.tmp 17) 22 rfl W.heap.size 5 (.int .u8 0) 1 1 Tryz.underlying22 Tryz.info5 rfl (by decide) (.slice A2 (2 * k) c2) (2 * k) (Bs (hexL (bs.take k))) rfl (by with_reducible repeat (first | exact R2.out | apply RowQ.alloc | apply RowQ.drew)) _ 2 2 _ rfl (by with_reducible repeat (first | exact src_box2 _ _ _ _ (by simp only) | apply src_drew)) (by omega) (by omega) (by have := B2.out.size; (try simp only [hsz, drew_size]); first | done | omega) ?_; intro v3 w3 hr3 hg3 hat3; have R3 := Lib.hid hr3; have G3 := Lib.hid hg3; clear hr3 hg3 hat3))
      all_goals
        go_wp2_with fail
        go_roundw
        case measure => show 32 - ((k : Int) + 1).toNat < 32 - (k : Int).toNat; omega
        case rel => exact ⟨k + 1, by omega, by go_num, hex_round bs k hlt HL.out R3.out, grown_low (by with_reducible repeat (first | exact B2.out | apply Below.drew | refine Below.alloc ?_ (by have := B2.out.size; (try simp only [drew_size]); omega) _)) (by have := B2.out.size; (try simp only [hsz, drew_size]); omega) G3.out (fun k e => (R2.out.lt k e).1)⟩
end Go.Proofs.YtpfoohfgochaiaaGreatDoor
