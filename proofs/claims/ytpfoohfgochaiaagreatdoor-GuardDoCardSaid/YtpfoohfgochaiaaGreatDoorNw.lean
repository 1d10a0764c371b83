/- GuardNest: the walk of the law's body. -/
import Derived.Test.YtpfoohfgochaiaaGreatDoorGn
namespace Go.Proofs.YtpfoohfgochaiaaGreatDoor
open Go.RowKit
theorem Blk.kept {w w1 : World} {g b : Nat} {t : TypeId} {cs : List Value} (h : Blk w g t cs) (hk : Kept2 w w1 b none) (hg : g ≠ b) : Blk w1 g t cs := (hk.block g h.lt hg (fun e => by cases e)).trans h
theorem gnDo_any (w : World) (gx gi gy : Nat) (x y z : Int) (hx : Blk w gx 34 [.int .i64 x]) (hi : Blk w gi 34 [.int .i64 z]) (hy : Blk w gy 34 [.int .i64 y]) (hne : gi ≠ gy) (hnx : gi ≠ gx) :
    Calls Tryz.prog 29 #[.func (.func 49) #[] #[.pointer (some ⟨gx, 0, none⟩), .pointer (some ⟨gi, 0, none⟩), .pointer (some ⟨gy, 0, none⟩)]] w fun e w' =>
      e = .returned (.int .i64 y) ∧ Blk w' gx 34 [.int .i64 x] ∧ Blk w' gi 34 [.int .i64 x] ∧ Blk w' gy 34 [.int .i64 y] ∧ Kept2 w w' gi none := by
  have c0 := gn1_any (w.alloc (.cells #[.int .i64 0] 34)) gx gi gy x y z (hx.alloc _) (hi.alloc _) (hy.alloc _) hne
  refine (do_fault w 49 _ y (fun W2 => ∃ w1, Below (w.alloc (.cells #[.int .i64 0] 34)).heap.size (w.alloc (.cells #[.int .i64 0] 34)) w1 ∧ W2 = w1.setCell ⟨gi, 0, none⟩ (.int .i64 x)) (fun w => by kernel_rfl) (c0.mono ?_)).mono ?_
  · rintro e' W2 ⟨rfl, w1, hb, rfl⟩
    refine ⟨rfl, ?_, w1, hb, rfl⟩
    have hl := hi.lt
    exact ((Blk.new w _ [.int .i64 0]).below hb).far (p := ⟨gi, 0, none⟩) (show w.heap.size ≠ gi by omega) _
  · rintro e' W' ⟨rfl, W2, ⟨w1, hb, rfl⟩, hk⟩
    have lx := hx.lt
    have li := hi.lt
    have ly := hy.lt
    have k0 : Kept2 w (w1.setCell ⟨gi, 0, none⟩ (.int .i64 x)) gi none := (((Kept2.refl w gi none).below ((Below.refl _ _).alloc (Nat.le_refl _) _)).below hb).setCell 0 _
    have hsz : w.heap.size ≤ (w1.setCell ⟨gi, 0, none⟩ (.int .i64 x)).heap.size := k0.size
    have bi : Blk (w1.setCell ⟨gi, 0, none⟩ (.int .i64 x)) gi 34 [.int .i64 x] := ((hi.alloc _).below hb).setCell 0 _
    exact ⟨rfl, (hx.kept k0 hnx.symm).kept hk (by omega), bi.kept hk (by omega), (hy.kept k0 hne.symm).kept hk (by omega),
      ⟨hk.os.trans k0.os, hk.tape.trans k0.tape, hk.output.trans k0.output, Nat.le_trans k0.size hk.size, fun k hk1 h1 h2 => (hk.block k (by omega) (by omega) h2).trans (k0.block k hk1 h1 h2)⟩⟩
set_option maxRecDepth 20000 in
set_option maxHeartbeats 1600000 in
theorem guardNest_any (W : World) (a b : Int) (hG : Gl W) : Calls Tryz.prog 10 #[.int .i64 a, .int .i64 b] W fun e W' => e = .returned (.bool true) ∧ Below W.heap.size W W' := by
  have hmf : ∀ (fn : Fn) (first cap : Array Value) (w : World), (Instr.makeFunc fn first cap).run Tryz.prog w = .ok (.func fn first cap) w := fun _ _ _ _ => rfl
  have hb := begun_any W hG
  have HB := Lib.hid hb
  clear hb hG
  go_enter Tryz.func10, Tryz.ntmps10
  go_upto_region 6 with (first
    | (go_at_call 23; refine HB.out.mono ?_; rintro e w1 ⟨rfl, hb⟩; have L1 := Lib.hid hb; clear hb))
  generalize wrap64 (1 + bits BinOp.and IntKind.i64 a 7) = x
  generalize wrap64 (1 + bits BinOp.and IntKind.i64 b 7) = y
  have bx : Blk (((w1.alloc (.cells #[.int .i64 x] 34)).alloc (.cells #[.int .i64 y] 34)).alloc (.cells #[.int .i64 0] 34)) w1.heap.size 34 [.int .i64 x] := ((Blk.new w1 _ [.int .i64 x]).alloc _).alloc _
  have by' : Blk (((w1.alloc (.cells #[.int .i64 x] 34)).alloc (.cells #[.int .i64 y] 34)).alloc (.cells #[.int .i64 0] 34)) (w1.heap.size + 1) 34 [.int .i64 y] := by
    have := (Blk.new (w1.alloc (.cells #[.int .i64 x] 34)) 34 [.int .i64 y]).alloc (.cells #[.int .i64 0] 34)
    rwa [hsz] at this
  have bi : Blk (((w1.alloc (.cells #[.int .i64 x] 34)).alloc (.cells #[.int .i64 y] 34)).alloc (.cells #[.int .i64 0] 34)) (w1.heap.size + 1 + 1) 34 [.int .i64 0] := by
    have := Blk.new ((w1.alloc (.cells #[.int .i64 x] 34)).alloc (.cells #[.int .i64 y] 34)) 34 [.int .i64 0]
    rwa [hsz, hsz] at this
  have L3 : Hid (Below W.heap.size W (((w1.alloc (.cells #[.int .i64 x] 34)).alloc (.cells #[.int .i64 y] 34)).alloc (.cells #[.int .i64 0] 34))) :=
    have s1 := L1.out.size
    ((L1.out.alloc s1 _).alloc (by rw [hsz]; omega) _).alloc (by rw [hsz, hsz]; omega) _
  have hl : W.heap.size ≤ w1.heap.size := L1.out.size
  generalize ((w1.alloc (.cells #[.int .i64 x] 34)).alloc (.cells #[.int .i64 y] 34)).alloc (.cells #[.int .i64 0] 34) = w3 at bx by' bi L3 ⊢
  have cD := gnDo_any w3 w1.heap.size (w1.heap.size + 1 + 1) (w1.heap.size + 1) x y 0 bx bi by' (by omega) (by omega)
  have CD := Lib.hid cD
  have HL := Lib.hid hl
  clear cD bx by' bi hl
  go_wp2_with (first
    | (go_at_call 29; refine CD.out.mono ?_; rintro e w4 ⟨rfl, bx, bi, by', hk⟩; have cx := bx.cell 0 _ rfl; have cy := by'.cell 0 _ rfl; have ci := bi.cell 0 _ rfl; have K4 := Lib.hid hk; clear hk bx bi by'))
  have hl := HL.out
  have k4 := K4.out
  have l3 := L3.out
  have B : Below W.heap.size W w4 := ⟨k4.os.trans l3.os, k4.tape.trans l3.tape, k4.output.trans l3.output, Nat.le_trans l3.size k4.size, fun k hk => (k4.block k (Nat.lt_of_lt_of_le hk l3.size) (by omega) (fun e => by cases e)).trans (l3.block k hk)⟩
  go_ret
  exact ⟨rfl, B⟩
end Go.Proofs.YtpfoohfgochaiaaGreatDoor
