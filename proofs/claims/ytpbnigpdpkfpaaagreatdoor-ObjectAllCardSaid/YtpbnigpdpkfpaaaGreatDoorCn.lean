/- commit.named: a line of a word and a name. -/
import Derived.Test.YtpbnigpdpkfpaaaGreatDoorP10x
import Derived.Test.YtpbnigpdpkfpaaaGreatDoorP5x
import Derived.Test.YtpbnigpdpkfpaaaGreatDoorOd
import Derived.Test.YtpbnigpdpkfpaaaGreatDoorSh
namespace Go.Proofs.YtpbnigpdpkfpaaaGreatDoor
open Go.RowKit
set_option maxRecDepth 100000 in
set_option maxHeartbeats 1600000 in
theorem named_any (W : World) (s p : ByteArray) (l w : List UInt8) (hl : l = s.data.toList) (hw : w = p.data.toList) : Calls Tryz.prog 115 #[.string s, .string p] W fun e W' =>
    e = .returned (.tuple #[.agg (encI (namedV l w).1).toArray, .bool (namedV l w).2]) ∧ Below W.heap.size W W' := by
  have zI := zI_eq
  have n0 := Blk.new W 24 zero32
  have l0 := (Below.refl W.heap.size W).alloc (Nat.le_refl _) (.cells zero32.toArray 24)
  have ck := fun w => Tryz.strings_CutPrefix s p w
  rw [← hl, ← hw] at ck
  obtain ⟨u, hu⟩ : ∃ u : ByteArray, u = ⟨(Lib.trimPrefix l w).toArray⟩ := ⟨_, rfl⟩
  rw [← hu] at ck
  have hp : Lib.hasPrefix l w = w.isPrefixOf l := rfl
  rw [hp] at ck
  cases hq : w.isPrefixOf l
  · have hv : namedV l w = (default, false) := by unfold namedV; rw [hq, if_neg (by simp)]
    rw [hv]
    rw [hq] at ck
    have CK := Lib.hid ck
    obtain ⟨w0, hw0⟩ : ∃ w0, w0 = W.alloc (.cells zero32.toArray 24) := ⟨_, rfl⟩
    rw [← hw0] at n0 l0
    have N0 := Lib.hid n0
    have L0 := Lib.hid l0
    have HW := Lib.hid hw0
    clear ck hv hq hu hl hw n0 l0 hw0 hp
    go_enter Tryz.func115, Tryz.ntmps115
    go_upto_region 1 with fail
    rw [← HW.out]
    go_wp2_with (first
      | (go_at_call 116; refine (CK.out _).mono ?_; rintro e w' ⟨rfl, hw⟩; replace hw := hw.symm; subst hw)
      | (refine wpl_build rfl 24 _ rfl zero32 (by kernel_rfl) ?_)
      | (refine wpl_store rfl 24 (.tmp 4) _ rfl W.heap.size zero32 rfl rfl 24 zero32 N0.out (by rw [Tryz.sizeId]; simp [zero32]) rfl (Bs_one _) ?_))
    refine bodyPost_ret (res_row2 rfl _ _ W.heap.size 24 zero32 32 5 rfl (N0.out.row _) Tryz.underlying24 (by rw [Tryz.sizeId]; simp [zero32])) rfl ?_
    exact ⟨rfl, below_setRow' L0.out (Nat.le_refl _) _⟩
  · have hv : namedV l w = (⟨(idR (l.drop w.length)).1, idR_len _⟩, (idR (l.drop w.length)).2) := by unfold namedV; rw [if_pos hq]
    have hd : Lib.trimPrefix l w = l.drop w.length := by unfold Lib.trimPrefix; rw [hp, hq, if_pos rfl]
    have cg := fun W => idGet_any W u (l.drop w.length) (by rw [hu, hd])
    have hil := idR_len (l.drop w.length)
    rw [hv]
    rw [hq] at ck
    unfold encI
    simp only
    obtain ⟨r1, hr1⟩ : ∃ r1, r1 = (idR (l.drop w.length)).1 := ⟨_, rfl⟩
    obtain ⟨r2, hr2⟩ : ∃ r2, r2 = (idR (l.drop w.length)).2 := ⟨_, rfl⟩
    simp only [← hr1, ← hr2] at cg ⊢
    rw [← hr1] at hil
    clear hr1 hr2
    have CK := Lib.hid ck
    have CG := Lib.hid cg
    have HIL := Lib.hid hil
    obtain ⟨w0, hw0⟩ : ∃ w0, w0 = W.alloc (.cells zero32.toArray 24) := ⟨_, rfl⟩
    rw [← hw0] at n0 l0
    have N0 := Lib.hid n0
    have L0 := Lib.hid l0
    have HW := Lib.hid hw0
    clear ck cg hv hq hu hd hl hw n0 l0 hw0 hp hil
    obtain ⟨cs, hcs⟩ : ∃ cs, cs = Bs r1 := ⟨_, rfl⟩
    rw [← hcs] at CG ⊢
    have HCS := Lib.hid hcs
    clear hcs
    go_enter Tryz.func115, Tryz.ntmps115
    go_upto_region 1 with fail
    rw [← HW.out]
    go_wp2_with (first
      | (go_at_call 116; refine (CK.out _).mono ?_; rintro e w' ⟨rfl, hw⟩; replace hw := hw.symm; subst hw)
      | (go_at_call 166; refine (CG.out _).mono ?_; rintro e w9 ⟨rfl, hb⟩; have B9 := Lib.hid hb; have N9 := Lib.hid (N0.out.below hb); clear hb)
      | (refine wpl_store rfl 24 (.tmp 4) _ rfl W.heap.size cs rfl rfl 24 zero32 N9.out (by rw [Tryz.sizeId, HCS.out]; simp [HIL.out]) (by rw [HCS.out]; simp [zero32, HIL.out]) (by rw [HCS.out]; exact Bs_one _) ?_))
    refine bodyPost_ret (res_row2 rfl _ _ W.heap.size 24 cs 32 5 rfl (N9.out.row _) Tryz.underlying24 (by rw [Tryz.sizeId, HCS.out]; simp [HIL.out])) rfl ?_
    exact ⟨rfl, below_setRow' (L0.out.trans (B9.out.mono L0.out.size)) (Nat.le_refl _) _⟩
end Go.Proofs.YtpbnigpdpkfpaaaGreatDoor
