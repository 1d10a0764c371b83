/- sha.Sum: the hash of a text, at once. -/
import Derived.Test.YtpfoohfgochaiaaGreatDoorHs
namespace Go.Proofs.YtpfoohfgochaiaaGreatDoor
open Go.RowKit
theorem sum_end {W w3 : World} {xs : List Value} (hb : Below W.heap.size W w3) : Below W.heap.size W (w3.setRow W.heap.size xs.toArray) := below_setRow' hb (Nat.le_refl _) _
theorem sum_blk {W0 w1 w2 w3 : World} {p g : Nat} {r : Option Nat} (hz : Blk W0 p 28 zero32) (hn : W0.heap.size = p + 1) (h1 : Below W0.heap.size W0 w1) (h2 : Kept2 w1 w2 g r) (hr : r = none) (h3 : Below w2.heap.size w2 w3) (hg : W0.heap.size ≤ g) : Blk w3 p 28 zero32 :=
  Blk.below (w := w2) ((h2.block p (by have := h1.size; omega) (by omega) (by rw [hr]; simp)).trans (hz.below h1)) h3
theorem sum_low {W W0 w1 w2 w3 : World} {g : Nat} {r : Option Nat} (h0 : Below W.heap.size W W0) (h1 : Below W0.heap.size W0 w1) (h2 : Kept2 w1 w2 g r) (hr : r = none) (h3 : Below w2.heap.size w2 w3) (hg : W0.heap.size ≤ g) : Below W.heap.size W w3 := by
  have s0 := h0.size
  have s1 := h1.size
  have s2 := h2.size
  exact ((h0.trans (h1.mono s0)).trans (h2.toBelow (B := W.heap.size) (by omega) (by omega) (fun k e => by rw [hr] at e; cases e))).trans (h3.mono (by omega))
set_option maxRecDepth 100000 in
set_option maxHeartbeats 2000000 in
theorem shaSum_any (W : World) (A : Option Addr) (m c : Nat) (bs : List UInt8) (hs : Src W 1 A m (Bs bs)) (hA : ∀ ad, A = some ad → ad.block < W.heap.size) (hm : m ≤ 140737488355328) :
    Calls Tryz.prog 28 #[.slice A m c] W fun e W' => e = .returned (.agg (Bs (sha256 bs)).toArray) ∧ Below W.heap.size W W' := by
  have z32 := z32_eq
  have hl : bs.length = m := by have := hs.1; simpa using this
  have S0 := Lib.hid (hs.far (src_alloc hs (.cells zero32.toArray 28)))
  have A0 := Lib.hid hA
  have L0 := Lib.hid hl
  have B0 : Hid (Below W.heap.size W (W.alloc (.cells zero32.toArray 28))) := (Below.refl _ _).alloc (Nat.le_refl _) _
  have Z0 := Lib.hid (Blk.new W 28 zero32)
  have N0 : Hid ((W.alloc (.cells zero32.toArray 28)).heap.size = W.heap.size + 1) := hsz _ _
  clear hs hA hl
  go_enter Tryz.func28, Tryz.ntmps28
  go_wp2_with (first
    | (go_at_call 24; generalize W.alloc (.cells zero32.toArray 28) = W0 at *; refine (new_any W0).mono ?_; rintro e w1 ⟨g, rfl, hg, hH, hb⟩; have G1 := Lib.hid hg; have H1 := Lib.hid hH; have B1 := Lib.hid hb; clear hg hH hb)
    | (go_at_call 25; refine (put_any w1 W0.heap.size g st0 (.slice none 0 0) [] 0 A m c bs H1.out (src_below S0.out B1.out) (fun ad e => by have := A0.out ad e; have := G1.out; have := N0.out; omega) (by omega) (by omega) (by simp; omega) B1.out.size).mono ?_; rintro e w2 ⟨rfl, v2, h2, k2, r2⟩; rw [List.nil_append, Int.zero_add] at h2; have H2 := Lib.hid h2; have K2 := Lib.hid k2; clear h2 k2 r2)
    | (go_at_call 26; refine (sum_any w2 W0.heap.size g (absorb st0 bs).1 v2 (absorb st0 bs).2 m H2.out hm (by rw [absorb_mod]; omega)).mono ?_; rintro e w3 ⟨rfl, hb3⟩; have B3 := Lib.hid hb3; clear hb3)
    | (refine wpl_store rfl 28 (.tmp 2) _ rfl W.heap.size (Bs (digest (absorb st0 bs).1 (absorb st0 bs).2 m)) rfl rfl 28 zero32 (sum_blk Z0.out N0.out B1.out K2.out rfl B3.out G1.out) (by rw [Tryz.size32]; simp) (by simp [zero32]) (Bs_one _) ?_))
  refine bodyPost_ret (v := .agg (Bs (digest (absorb st0 bs).1 (absorb st0 bs).2 m)).toArray) (res_row rfl _ _ W.heap.size 28 _ 32 5 rfl ((sum_blk Z0.out N0.out B1.out K2.out rfl B3.out G1.out).row _) Tryz.underlying28 (by rw [Tryz.size32]; simp)) rfl ⟨?_, sum_end (sum_low B0.out B1.out K2.out rfl B3.out G1.out)⟩
  rw [← L0.out, digest_absorb]
end Go.Proofs.YtpfoohfgochaiaaGreatDoor
