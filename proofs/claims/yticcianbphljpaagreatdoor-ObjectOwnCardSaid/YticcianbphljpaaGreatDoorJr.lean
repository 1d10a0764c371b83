/- object.Links: a commit's. -/
import Derived.Test.YticcianbphljpaaGreatDoorP17x
import Derived.Test.YticcianbphljpaaGreatDoorJl
import Derived.Test.YticcianbphljpaaGreatDoorP9x
namespace Go.Proofs.YticcianbphljpaaGreatDoor
open Go.RowKit
set_option maxRecDepth 20000 in
set_option maxHeartbeats 6400000 in
theorem links_com (W : World) (o : Obt) (A : Option Addr) (n k : Nat) (B : Option Addr) (m d : Nat) (h : ObAt W o A n k B m d) (hm : m ≤ 1099511627776) (hk : o.kd = 3) :
    Calls Tryz.prog 39 #[.agg (objL o A n k B m d).toArray] W (LinksPost W (linksO o)) := by
  have hl : linksO o = [o.com.tree] ++ o.com.ps := by unfold linksO; rw [if_neg (by omega), if_pos hk]; rfl
  rw [hl]
  have LN := Lib.hid h.com.len
  have l0 := (Below.refl W.heap.size W).alloc (Nat.le_refl _) (.cells (objL o A n k B m d).toArray 64)
  have kb := ObBlk.of (Blk.new W 64 (objL o A n k B m d))
  obtain ⟨w0, hw0⟩ : ∃ w0, w0 = W.alloc (.cells (objL o A n k B m d).toArray 64) := ⟨_, rfl⟩
  rw [← hw0] at l0 kb
  have s0 := srcI_below h.com.row l0
  have k0 := kb.kd
  rw [hk] at k0
  have kt : ∀ j v, (encI o.com.tree)[j]? = some v → w0.cell? ((⟨W.heap.size, 3, none⟩ : Addr).add j) = some v := fun j v hv => kb.com j v (comL_tree _ _ _ _ j v hv)
  have kp : ∀ w, Below w0.heap.size w0 w → w.cell? ⟨W.heap.size, 35, none⟩ = some (.slice B m d) := fun w hw => by
    have := (kb.below hw).com 32 _ (comL_at o.com B m d).1
    rwa [addr_row _ rfl] at this
  have L0 := Lib.hid l0
  have S0 := Lib.hid s0
  have KT := Lib.hid kt
  have KP := Lib.hid kp
  have IT := Lib.hid (infoId o.com.tree)
  have HM := Lib.hid hm
  obtain ⟨g, hg⟩ : ∃ g, g = W.heap.size := ⟨_, rfl⟩
  rw [← hg] at k0 KT KP
  have G := Lib.hid hg
  generalize objL o A n k B m d = cs at hw0 ⊢
  clear h hm hk hl l0 kb s0 kt kp
  go_enter Tryz.func39, Tryz.ntmps39
  go_upto_region 1 with fail
  change Code.wp _ _ _ _ (W.alloc (.cells cs.toArray 64))
  rw [← hw0, ← hg]
  clear hw0 hg
  go_wp2_with (first
    | (refine wpl_loadS rfl 25 (.tmp 26) rfl ⟨g, 3, none⟩ rfl (encI o.com.tree) Tryz.isAgg25 IT.out KT.out ?_)
    | (refine wpl_buildE idtE rfl 31 25 1 _ rfl [o.com.tree] rfl rfl (.agg zero32.toArray) 32 Tryz.underlying31 Tryz.infoIdz (by decide) (by decide) ?_; have R1 := Lib.hid (row_new idtE w0 W.heap.size 25 [o.com.tree] L0.out.size (show (1 : Nat) ≤ maxLen by decide)); have L1 := Lib.hid (L0.out.alloc L0.out.size (.cells (idtE.row [o.com.tree]).toArray 25)); have B1 : Hid (Below w0.heap.size w0 (w0.alloc (.cells (idtE.row [o.com.tree]).toArray 25))) := Lib.hid ((Below.refl _ _).alloc (Nat.le_refl _) _); have kp1 := KP.out _ B1.out; have S1 := Lib.hid (srcI_below S0.out B1.out); generalize w0.heap.size = g1 at R1 B1 ⊢; generalize World.alloc w0 (.cells (idtE.row [o.com.tree]).toArray 25) = w1 at R1 L1 B1 kp1 S1 ⊢)
    | (at_builtin; refine wpl_append rfl (.tmp 28) (.tmp 31) 31 rfl W.heap.size 25 (.agg zero32.toArray) 32 32 Tryz.underlying31 Tryz.infoIdz rfl (by decide) (.slice (some ⟨g1, 0, none⟩) 1 1) 1 (rowI [o.com.tree]) rfl R1.out B m d (rowI o.com.ps) rfl S1.out (by have := HM.out; omega) (by have := HM.out; omega) L1.out.size ?_; intro v2 w2 hr2 hg2 ha2; have R2 := Lib.hid hr2; have L2 := Lib.hid (L1.out.grown hg2 L1.out.size (fun k e => (R1.out.lt k e).1)); clear hr2 hg2 ha2))
  go_ret
  have e : (o.com.tree :: o.com.ps).length = 1 + m := by rw [List.length_cons, LN.out]; omega
  have e2 : rowI (o.com.tree :: o.com.ps) = rowI [o.com.tree] ++ rowI o.com.ps := by rw [← rowI_append]; rfl
  obtain ⟨A2, d2, rfl, _, _⟩ := R2.out.shape
  refine ⟨A2, d2, by rw [e]; rfl, ?_, L2.out⟩
  rw [e, e2]
  exact R2.out
theorem links_any (W : World) (o : Obt) (A : Option Addr) (n k : Nat) (B : Option Addr) (m d : Nat) (h : ObAt W o A n k B m d) (hn : n ≤ 1099511627776) (hm : m ≤ 1099511627776) :
    Calls Tryz.prog 39 #[.agg (objL o A n k B m d).toArray] W (LinksPost W (linksO o)) := by
  by_cases h2 : o.kd = 2
  · exact links_tree W o A n k B m d h hn h2
  · by_cases h3 : o.kd = 3
    · exact links_com W o A n k B m d h hm h3
    · exact links_none W o A n k B m d ⟨h2, h3⟩
end Go.Proofs.YticcianbphljpaaGreatDoor
