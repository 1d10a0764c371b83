/- object.Get: a commit; all of it. -/
import Derived.Test.YticcianbphljpaaGreatDoorP17x
namespace Go.Proofs.YticcianbphljpaaGreatDoor
open Go.RowKit
set_option maxRecDepth 20000 in
set_option maxHeartbeats 6400000 in
theorem objGet_3 (W : World) (k : Int) (s : ByteArray) (l : List UInt8) (hl : l = s.data.toList) (hs : s.size < 4294967281) (hG : Gl W) (hE : Ge W) (hk : k = 3) : Calls Tryz.prog 34 #[.int .i64 k, .string s] W (GetOPost W k l) := by
  have hls : l.length = s.size := by rw [hl, ← ba_size]
  have I0 := GtO.start W k
  have bu := built_kindO k
  have io := infoO ⟨k, [], [], noCom⟩ none 0 0 none 0 0
  have lo := objL_len ⟨k, [], [], noCom⟩ none 0 0 none 0 0
  have oo := objL_one ⟨k, [], [], noCom⟩ none 0 0 none 0 0
  obtain ⟨c0, hc0⟩ : ∃ c0, c0 = objL ⟨k, [], [], noCom⟩ none 0 0 none 0 0 := ⟨_, rfl⟩
  rw [← hc0] at I0 bu io lo oo
  have HC0 := Lib.hid hc0
  have BU := Lib.hid bu
  have IO := Lib.hid io
  have LO := Lib.hid lo
  have OO := Lib.hid oo
  obtain ⟨w1, hw1⟩ : ∃ w1, w1 = W.alloc (.cells zeroO.toArray 64) := ⟨_, rfl⟩
  have hz1 : w1.heap.size = W.heap.size + 1 := by rw [hw1, hsz]
  rw [← hw1] at I0
  have KI := Lib.hid I0
  have HW1 := Lib.hid hw1
  have HZ1 := Lib.hid hz1
  have HL := Lib.hid hl
  have HLS := Lib.hid hls
  subst hk
  have HG := Lib.hid hG
  have HE := Lib.hid hE
  have HS := Lib.hid hs
  clear hs hG hE hl hls bu io lo oo hc0 I0 hw1 hz1
  go_enter Tryz.func34, Tryz.ntmps34
  go_upto_region 1 with fail
  change Code.wp _ _ _ _ (W.alloc (.cells zeroO.toArray 64))
  rw [← HW1.out]
  go_upto_region 2 with (first
    | (refine wpl_buildP rfl 64 _ rfl c0 BU.out ?_)
    | (refine wpl_storeS rfl 64 (.tmp 6) _ rfl w1.heap.size c0 rfl rfl 64 zeroO (Blk.new w1 _ _) IO.out (by rw [LO.out]; rfl) OO.out ?_))
  change Code.wp _ _ _ _ ((w1.alloc (.cells zeroO.toArray 64)).setRow w1.heap.size c0.toArray)
  rw [HZ1.out]
  generalize (w1.alloc (.cells zeroO.toArray 64)).setRow (W.heap.size + 1) c0.toArray = v0 at KI ⊢
  obtain ⟨g1, hg1⟩ : ∃ g1, g1 = W.heap.size + 1 := ⟨_, rfl⟩
  rw [← hg1] at KI
  rw [← hg1]
  obtain ⟨g0, hg0⟩ : ∃ g0, g0 = W.heap.size := ⟨_, rfl⟩
  rw [← hg0] at KI
  rw [← hg0]
  have HG0 := Lib.hid hg0
  clear hg0 hg1 HW1 HZ1 BU
  have cT := commitGet_any v0 s l HL.out HS.out (HG.out.below KI.out.low) (HE.out.below KI.out.low)
  unfold GetCPost at cT
  have hg : getO 3 l = match getC l with | some c => (⟨3, [], [], c⟩, 0) | none => (noOb, 1) := by unfold getO; rw [if_neg (by omega), if_neg (by omega), if_pos rfl]; cases getC l <;> rfl
  have th : ∀ w, GtO W w g0 g1 c0 → w.there g1 3 35 := fun w h => h.cur.there 3 35 (by rw [LO.out]; omega)
  have TH := Lib.hid th
  clear th
  cases hq : getC l with
  | none =>
    rw [hq] at cT hg
    simp only at cT hg
    have HGT := Lib.hid hg
    have zl : zeroC.length = 35 := comL_len _ _ _ _
    have zi := infoZC
    have zo : ∀ v ∈ zeroC, v.oneCell' = true := comL_one _ _ _ _
    obtain ⟨zc, hzc⟩ : ∃ zc, zc = zeroC := ⟨_, rfl⟩
    rw [← hzc] at cT zl zi zo
    have CT := Lib.hid cT
    have ZL := Lib.hid zl
    have ZI := Lib.hid zi
    have ZO := Lib.hid zo
    clear cT hg hq zl zi zo hzc
    go_wp2_with (first
      | (go_at_call 21; refine CT.out.mono ?_; rintro e v1 ⟨rfl, h1⟩; have K1 := Lib.hid (KI.out.below h1); clear h1; have K2 := Lib.hid (K1.out.mid zc 3 (by rw [LO.out, ZL.out]; exact Nat.le_refl _)))
      | (refine wpl_store_mid rfl 34 (.tmp 33) _ rfl g1 3 zc rfl rfl (by rw [ZL.out]; exact TH.out _ K1.out) ZI.out ZO.out ?_)
      | (refine wpl_build rfl 64 _ rfl zeroO (by kernel_rfl) ?_)
      | (refine wpl_storeS rfl 64 (.tmp 4) _ rfl g0 zeroO rfl rfl 64 zeroO K2.out.res infoZO rfl zeroO_one ?_))
    refine bodyPost_ret (res_rowS2 rfl _ _ g0 64 zeroO _ rfl (K2.out.res.row _) Tryz.underlying64 rfl infoZO) rfl ?_
    exact getO_err HGT.out (by decide) rfl (below_setRow' K2.out.low K2.out.p0 _)
  | some c =>
    rw [hq] at cT hg
    simp only at cT hg
    have HGT := Lib.hid hg
    have CT := Lib.hid cT
    have HV := Lib.hid KI.out.low.size
    clear cT hg hq
    go_wp2_with (first
      | (go_at_call 21; refine CT.out.mono ?_; rintro e v1 ⟨A, d, rfl, hr, h1⟩; have K1 := Lib.hid (KI.out.below h1); have RQ := Lib.hid hr; have gq : g1 < v0.heap.size := KI.out.cur.lt; have gp : g0 < v0.heap.size := KI.out.res.lt; have N1 := Lib.hid (show (Value.slice A c.ps.length d).ownBlock ≠ some g1 from fun e => by have := (hr.lt _ e).1; omega); have N0 := Lib.hid (show (Value.slice A c.ps.length d).ownBlock ≠ some g0 from fun e => by have := (hr.lt _ e).1; omega); clear hr h1 gq gp; have K2 : Hid (GtO W (v1.setCells g1 3 (comL c A c.ps.length d)) g0 g1 (objL ⟨3, [], [], c⟩ none 0 0 A c.ps.length d)) := Lib.hid (by have := K1.out.mid (comL c A c.ps.length d) 3 (by rw [LO.out, comL_len]; exact Nat.le_refl _); rw [HC0.out, objL_com] at this; exact this); have RQ2 := Lib.hid ((RQ.out.of_block fun k hk => heap_setCells_other g1 k (fun e => N1.out (by rw [hk, e])) (comL c A c.ps.length d) 3 v1).mono HV.out))
      | (refine wpl_store_mid rfl 34 (.tmp 33) _ rfl g1 3 (comL c A c.ps.length d) rfl rfl (by rw [comL_len]; exact TH.out _ K1.out) (infoC _ _ _ _) (comL_one _ _ _ _) ?_)
      | (refine wpl_loadS rfl 64 (.tmp 6) rfl ⟨g1, 0, none⟩ rfl (objL ⟨3, [], [], c⟩ none 0 0 A c.ps.length d) Tryz.isAgg64 (infoO _ _ _ _ _ _ _) (fun j u hu => by rw [addr_row _ rfl, Nat.zero_add]; exact K2.out.cur.cell j u hu) ?_)
      | (refine wpl_storeS rfl 64 (.tmp 4) _ rfl g0 (objL ⟨3, [], [], c⟩ none 0 0 A c.ps.length d) rfl rfl 64 zeroO K2.out.res (infoO _ _ _ _ _ _ _) (by rw [objL_len]; rfl) (objL_one _ _ _ _ _ _ _) ?_))
    refine bodyPost_ret (res_rowS2 rfl _ _ g0 64 (objL ⟨3, [], [], c⟩ none 0 0 A c.ps.length d) _ rfl (K2.out.res.row _) Tryz.underlying64 rfl (infoO _ _ _ _ _ _ _)) rfl ?_
    exact getO_ok HGT.out none 0 A d rfl (RowQ.nil _ _ _ _) (RQ2.out.rowFar N0.out _) (below_setRow' K2.out.low K2.out.p0 _)
theorem objGet_any (W : World) (k : Int) (s : ByteArray) (l : List UInt8) (hl : l = s.data.toList) (hs : s.size < 4294967281) (hG : Gl W) (hE : Ge W) : Calls Tryz.prog 34 #[.int .i64 k, .string s] W (GetOPost W k l) := by
  by_cases e1 : k = 1
  · exact objGet_1 W k s l hl hs hG hE e1
  · by_cases e2 : k = 2
    · exact objGet_2 W k s l hl hs hG hE e2
    · by_cases e3 : k = 3
      · exact objGet_3 W k s l hl hs hG hE e3
      · exact objGet_0 W k s l hl hs hG hE ⟨e1, e2, e3⟩
end Go.Proofs.YticcianbphljpaaGreatDoor
