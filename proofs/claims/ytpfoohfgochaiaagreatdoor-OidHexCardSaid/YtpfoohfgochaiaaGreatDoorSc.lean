/- sha.first, sha.consts, colporteurref1.table: arrays that are written out; sha.mixed: one block more. -/
import Derived.Test.YtpfoohfgochaiaaGreatDoorSb
namespace Go.Proofs.YtpfoohfgochaiaaGreatDoor
open Go.RowKit
attribute [local go_sem] un_add un_shl8 un_of_byte un_addm un_and un_or un_xor un_not un_shl8m un_shr3 un_shr10 ub_mod un_mod
def zero64 : List Value := Us (List.replicate 64 0)
def zero8 : List Value := Us (List.replicate 8 0)
set_option maxRecDepth 100000 in
set_option maxHeartbeats 400000 in
theorem consts_any (w : World) :
    Calls Tryz.prog 121 #[] w fun e w' => e = .returned (.agg (Us ks).toArray) ∧ Below w.heap.size w w' := by
  have hb0 : Blk (w.alloc (.cells zero64.toArray 130)) w.heap.size 130 zero64 := Blk.new w _ _
  have HB := Lib.hid hb0
  clear hb0
  go_enter Tryz.func121, Tryz.ntmps121
  go_wp2_with (first | (refine wpl_build rfl 130 _ rfl (Us ks) (by kernel_rfl) ?_) | (refine wpl_store rfl 130 _ _ rfl w.heap.size (Us ks) rfl rfl 130 _ HB.out (by rw [Tryz.size64]; rfl) rfl (Us_one _) ?_))
  refine bodyPost_ret (v := .agg (Us ks).toArray) (res_row rfl _ _ w.heap.size 130 _ 64 93 rfl (HB.out.row _) Tryz.underlying130 (by rw [Tryz.size64]; rfl)) rfl ⟨rfl, below_setRow' ((Below.refl _ _).alloc (Nat.le_refl _) _) (Nat.le_refl _) _⟩
set_option maxRecDepth 100000 in
set_option maxHeartbeats 400000 in
theorem table_any (w : World) :
    Calls Tryz.prog 123 #[] w fun e w' => e = .returned (.agg (Us ks).toArray) ∧ Below w.heap.size w w' := by
  have hb0 : Blk (w.alloc (.cells zero64.toArray 130)) w.heap.size 130 zero64 := Blk.new w _ _
  have HB := Lib.hid hb0
  clear hb0
  go_enter Tryz.func123, Tryz.ntmps123
  go_wp2_with (first | (refine wpl_build rfl 130 _ rfl (Us ks) (by kernel_rfl) ?_) | (refine wpl_store rfl 130 _ _ rfl w.heap.size (Us ks) rfl rfl 130 _ HB.out (by rw [Tryz.size64]; rfl) rfl (Us_one _) ?_))
  refine bodyPost_ret (v := .agg (Us ks).toArray) (res_row rfl _ _ w.heap.size 130 _ 64 93 rfl (HB.out.row _) Tryz.underlying130 (by rw [Tryz.size64]; rfl)) rfl ⟨rfl, below_setRow' ((Below.refl _ _).alloc (Nat.le_refl _) _) (Nat.le_refl _) _⟩
set_option maxRecDepth 100000 in
set_option maxHeartbeats 400000 in
theorem first_any (w : World) :
    Calls Tryz.prog 88 #[] w fun e w' => e = .returned (.agg (Us h0s).toArray) ∧ Below w.heap.size w w' := by
  have hb0 : Blk (w.alloc (.cells zero8.toArray 94)) w.heap.size 94 zero8 := Blk.new w _ _
  have HB := Lib.hid hb0
  clear hb0
  go_enter Tryz.func88, Tryz.ntmps88
  go_wp2_with (first | (refine wpl_build rfl 94 _ rfl (Us h0s) (by kernel_rfl) ?_) | (refine wpl_store rfl 94 _ _ rfl w.heap.size (Us h0s) rfl rfl 94 _ HB.out (by rw [Tryz.size8]; rfl) rfl (Us_one _) ?_))
  refine bodyPost_ret (v := .agg (Us h0s).toArray) (res_row rfl _ _ w.heap.size 94 _ 8 93 rfl (HB.out.row _) Tryz.underlying94 (by rw [Tryz.size8]; rfl)) rfl ⟨rfl, below_setRow' ((Below.refl _ _).alloc (Nat.le_refl _) _) (Nat.le_refl _) _⟩
end Go.Proofs.YtpfoohfgochaiaaGreatDoor
