/- GuardNest: the walk. -/
import Derived.Test.YtpfoohfgochaiaaGreatDoorBe
namespace Go.Proofs.YtpfoohfgochaiaaGreatDoor
open Go.RowKit
/-- What is called fails and leaves all as it is. -/
theorem do_same (W : World) (k : Nat) (cap : Array Value) (e : Int) (hc : ∀ w, (callFunc k cap).run Tryz.prog w = .ok (.enter k cap) w)
    (hk : ∀ w, Below W.heap.size W w → Calls Tryz.prog k cap w fun e' w' => e' = faultOf e ∧ w' = w) :
    Calls Tryz.prog 29 #[.func (.func k) #[] cap] W fun e' W' => e' = .returned (.int .i64 e) ∧ Below W.heap.size W W' := by
  have h0 : Below W.heap.size W (W.alloc (.cells #[.int .i64 0] 34)) := (Below.refl _ _).alloc (Nat.le_refl _) _
  refine (do_fault W k cap e (fun W2 => W2 = W.alloc (.cells #[.int .i64 0] 34)) hc ((hk _ h0).mono ?_)).mono ?_
  · rintro e' W2 ⟨rfl, rfl⟩
    exact ⟨rfl, Blk.new W _ [.int .i64 0], rfl⟩
  · rintro e' W' ⟨rfl, W2, rfl, hk⟩
    exact ⟨rfl, h0.trans (hk.toBelow h0.size (Nat.le_refl _) (fun k e => by cases e))⟩
set_option maxHeartbeats 400000 in
theorem gn11_any (w : World) (g : Nat) (x : Int) (h : w.cell? ⟨g, 0, none⟩ = some (.int .i64 x)) : Calls Tryz.prog 50 #[.pointer (some ⟨g, 0, none⟩)] w fun e' w' => e' = faultOf x ∧ w' = w := by
  go_enter Tryz.func50, Tryz.ntmps50
  go_wp2_with (go_at_call 32; refine (fail_any _ x).mono ?_; rintro e' w' ⟨rfl, rfl⟩)
  exact ⟨rfl, rfl, rfl⟩
def Gn1Post (w : World) (gi : Nat) (x y : Int) (e' : Ending) (w' : World) : Prop := e' = faultOf y ∧ ∃ w1, Below w.heap.size w w1 ∧ w' = w1.setCell ⟨gi, 0, none⟩ (.int .i64 x)
set_option maxHeartbeats 800000 in
theorem gn1_any (w : World) (gx gi gy : Nat) (x y z : Int) (hx : Blk w gx 34 [.int .i64 x]) (hi : Blk w gi 34 [.int .i64 z]) (hy : Blk w gy 34 [.int .i64 y]) (hne : gi ≠ gy) :
    Calls Tryz.prog 49 #[.pointer (some ⟨gx, 0, none⟩), .pointer (some ⟨gi, 0, none⟩), .pointer (some ⟨gy, 0, none⟩)] w (Gn1Post w gi x y) := by
  have hmf : ∀ (fn : Fn) (first cap : Array Value) (w : World), (Instr.makeFunc fn first cap).run Tryz.prog w = .ok (.func fn first cap) w := fun _ _ _ _ => rfl
  have hd := do_same w 50 #[.pointer (some ⟨gx, 0, none⟩)] x (fun w => by kernel_rfl) (fun w1 hb => gn11_any w1 gx x ((hx.below hb).cell 0 _ rfl))
  have HD := Lib.hid hd
  have HI := Lib.hid hi
  have HY := Lib.hid hy
  have hne2 : ¬ gy = gi := fun e => hne e.symm
  clear hx hi hy hd
  go_enter Tryz.func49, Tryz.ntmps49
  go_wp2_with (first
    | (go_at_call 29; refine HD.out.mono ?_; rintro e' w1 ⟨rfl, hb⟩; have B1 := Lib.hid hb; have ci := (HI.out.below hb).cell 0 _ rfl; have fi := (HI.out.below hb).frozen 0; have cy := (HY.out.below hb).cell 0 _ rfl; clear hb)
    | (go_at_call 31; refine (must_false _ y).mono ?_; rintro e' w' ⟨rfl, rfl⟩))
  exact ⟨rfl, rfl, _, B1.out, rfl⟩
end Go.Proofs.YtpfoohfgochaiaaGreatDoor
