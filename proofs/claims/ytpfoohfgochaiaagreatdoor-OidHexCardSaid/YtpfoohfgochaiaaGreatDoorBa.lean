/- begun: what its calls come to; what its walk keeps. -/
import Derived.Test.YtpfoohfgochaiaaGreatDoorSz
import Derived.Test.YtpfoohfgochaiaaGreatDoorOo
import Derived.Test.YtpfoohfgochaiaaGreatDoorDo
import Derived.Test.YtpfoohfgochaiaaGreatDoorAbc
import Derived.Test.YtpfoohfgochaiaaGreatDoorLe
namespace Go.Proofs.YtpfoohfgochaiaaGreatDoor
open Go.RowKit
theorem src_new (w : World) (xs : List Value) (T : TypeId) (h1 : ∀ u ∈ xs, u.oneCell' = true) : Src (w.alloc (.cells xs.toArray T)) 1 (some ⟨w.heap.size, 0, none⟩) xs.length xs := by
  refine ⟨by simp, fun _ => ⟨_, rfl, fun j u hu => ?_⟩, h1⟩
  have ha : (⟨w.heap.size, 0, none⟩ : Addr).add j = ⟨w.heap.size, j, none⟩ := by unfold Addr.add; split <;> simp_all
  rw [ha]
  exact (Blk.new w T xs).cell j u hu
theorem rowQ_new (w : World) (xs : List Value) (T : TypeId) (n : Nat) (hn : xs.length = n) (hm : n ≤ maxLen) : RowQ (w.alloc (.cells xs.toArray T)) w.heap.size T 1 (.slice (some ⟨w.heap.size, 0, none⟩) n n) n xs :=
  ⟨by omega, .inr ⟨w.heap.size, 0, n, xs.toArray, rfl, Nat.le_refl _, Blk.new w T xs, Nat.le_refl _, hm, by simp; omega, by simp [← hn]⟩⟩
/-- What begun's walk keeps: all below, the hash's array. -/
structure Bg (W : World) (g1 : Nat) (w : World) : Prop where
  low : Below W.heap.size W w
  hash : Blk w g1 28 (Bs (sha256 [97, 98, 99]))
theorem Bg.next {W w w' : World} {g1 : Nat} (h : Bg W g1 w) (hb : Below w.heap.size w w') : Bg W g1 w' := ⟨h.low.trans (hb.mono h.low.size), h.hash.below hb⟩
theorem Bg.alloc {W w : World} {g1 : Nat} (h : Bg W g1 w) (o : Obj) : Bg W g1 (w.alloc o) := h.next ((Below.refl _ _).alloc (Nat.le_refl _) _)
structure Bh (W : World) (g1 g2 : Nat) (w : World) : Prop where
  bg : Bg W g1 w
  id : ∃ l : List UInt8, l.length = 32 ∧ Blk w g2 72 (Bs l)
theorem Bh.next {W w w' : World} {g1 g2 : Nat} (h : Bh W g1 g2 w) (hb : Below w.heap.size w w') : Bh W g1 g2 w' := ⟨h.bg.next hb, h.id.imp fun _ hl => ⟨hl.1, hl.2.below hb⟩⟩
theorem Bh.alloc {W w : World} {g1 g2 : Nat} (h : Bh W g1 g2 w) (o : Obj) : Bh W g1 g2 (w.alloc o) := h.next ((Below.refl _ _).alloc (Nat.le_refl _) _)
theorem RdAt.below {W W1 : World} {B g : Nat} {v : Value} {bs : List UInt8} (h : RdAt W B g v bs) (hb : Below W.heap.size W W1) : RdAt W1 B g v bs := ⟨h.1.below hb, h.2.1.below hb, h.2.2⟩
/-- begun's own fault. -/
theorem bgfail_any (W : World) : Calls Tryz.prog 87 #[] W fun e' W' => e' = faultOf 3 ∧ W' = W := by
  go_enter Tryz.func87, Tryz.ntmps87
  go_wp2_with (go_at_call 32; refine (fail_any _ 3).mono ?_; rintro e' w' ⟨rfl, rfl⟩)
  exact ⟨rfl, rfl, rfl⟩
theorem bgdo_any (W : World) : Calls Tryz.prog 29 #[.func (.func 87) #[] #[]] W fun e' W' => e' = .returned (.int .i64 3) ∧ Below W.heap.size W W' := by
  refine (do_fault W 87 #[] 3 (fun W2 => W2 = W.alloc (.cells #[.int .i64 0] 34)) (fun w => by kernel_rfl) ((bgfail_any _).mono ?_)).mono ?_
  · rintro e' W2 ⟨rfl, rfl⟩
    exact ⟨rfl, Blk.new W _ [.int .i64 0], rfl⟩
  · rintro e' W' ⟨rfl, W2, rfl, hk⟩
    refine ⟨rfl, ?_⟩
    have h0 : Below W.heap.size W (W.alloc (.cells #[.int .i64 0] 34)) := (Below.refl _ _).alloc (Nat.le_refl _) _
    exact h0.trans (hk.toBelow h0.size (Nat.le_refl _) (fun k e => by cases e))
theorem nan_any (W : World) : Calls Tryz.prog 59 #[] W fun e W' => e = .returned (.float .f64 9221120237041090561) ∧ W' = W := by
  have h2 := run_frombits
  go_enter Tryz.func59, Tryz.ntmps59
  go_wp2
  go_ret
  exact ⟨rfl, rfl⟩
theorem size_15k : sizeR [49, 46, 53, 107] = (4654470214887407616, true) := by kernel_rfl
theorem put_ab : putL [97, 98] = ([48, 48, 48, 54, 97, 98], true) := by decide
theorem get_ab : getR [48, 48, 48, 54, 97, 98, 48, 48, 48, 48] = (1, [97, 98], 6, 0) := by decide +kernel
theorem all_ab : allR [48, 48, 48, 54, 97, 98, 48, 48, 48, 49, 48, 48, 48, 48, 122] 0 [] = ([[97, 98], []], 14, 0) := by
  have g0 : getR ([48, 48, 48, 54, 97, 98, 48, 48, 48, 49, 48, 48, 48, 48, 122] : List UInt8) = (1, [97, 98], 6, 0) := by decide +kernel
  have g6 : getR ([48, 48, 48, 49, 48, 48, 48, 48, 122] : List UInt8) = (3, [], 4, 0) := by decide +kernel
  have g10 : getR ([48, 48, 48, 48, 122] : List UInt8) = (2, [], 4, 0) := by decide +kernel
  rw [allR]
  simp only [List.drop_zero, g0]
  rw [dif_pos trivial, if_neg (by decide), if_neg (by decide), allR]
  simp only [List.drop_succ_cons, List.drop_zero, Nat.zero_add, g6]
  rw [dif_pos trivial, if_neg (by decide), if_neg (by decide), allR]
  simp only [List.drop_succ_cons, List.drop_zero, Nat.reduceAdd, g10]
  rfl
theorem hex_one : hexS 4607182418800017408 = [51, 102, 102, 48, 48, 48, 48, 48, 48, 48, 48, 48, 48, 48, 48, 48] := by
  rw [hexS_ge (by decide), hexS_ge (by decide), hexS_ge (by decide), hexS_ge (by decide), hexS_ge (by decide), hexS_ge (by decide), hexS_ge (by decide), hexS_ge (by decide), hexS_ge (by decide), hexS_ge (by decide), hexS_ge (by decide), hexS_ge (by decide), hexS_ge (by decide), hexS_ge (by decide), hexS_ge (by decide), hexS_lt (by decide)]
  decide
theorem wput_one : wput 4607182418800017408 = [51, 102, 102, 48, 48, 48, 48, 48, 48, 48, 48, 48, 48, 48, 48, 48] := by
  have h : fmay 4607182418800017408 = true := by kernel_rfl
  unfold wput
  rw [h, hex_one]
  rfl
end Go.Proofs.YtpfoohfgochaiaaGreatDoor
