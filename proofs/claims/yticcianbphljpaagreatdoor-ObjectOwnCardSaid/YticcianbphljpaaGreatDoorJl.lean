/- object.Links: nothing. -/
import Derived.Test.YticcianbphljpaaGreatDoorP17x
namespace Go.Proofs.YticcianbphljpaaGreatDoor
open Go.RowKit
set_option maxRecDepth 20000 in
set_option maxHeartbeats 6400000 in
theorem links_none (W : World) (o : Obt) (A : Option Addr) (n k : Nat) (B : Option Addr) (m d : Nat) (hk : o.kd ≠ 2 ∧ o.kd ≠ 3) :
    Calls Tryz.prog 39 #[.agg (objL o A n k B m d).toArray] W (LinksPost W (linksO o)) := by
  have hl : linksO o = [] := by unfold linksO; rw [if_neg hk.1, if_neg hk.2]
  rw [hl]
  have l0 := (Below.refl W.heap.size W).alloc (Nat.le_refl _) (.cells (objL o A n k B m d).toArray 64)
  have k0 := (ObBlk.of (Blk.new W 64 (objL o A n k B m d))).kd
  obtain ⟨w0, hw0⟩ : ∃ w0, w0 = W.alloc (.cells (objL o A n k B m d).toArray 64) := ⟨_, rfl⟩
  rw [← hw0] at l0 k0
  have f2 : (o.kd == (2 : Int)) = false := by simpa using hk.1
  have f3 : (o.kd == (3 : Int)) = false := by simpa using hk.2
  have L0 := Lib.hid l0
  generalize objL o A n k B m d = cs at hw0 ⊢
  generalize o.kd = kd at k0 f2 f3
  clear hk hl l0
  go_enter Tryz.func39, Tryz.ntmps39
  go_upto_region 1 with fail
  change Code.wp _ _ _ _ (W.alloc (.cells cs.toArray 64))
  rw [← hw0]
  clear hw0
  go_wp2
  go_ret
  exact ⟨none, 0, rfl, RowQ.nil _ _ _ _, L0.out⟩
end Go.Proofs.YticcianbphljpaaGreatDoor
