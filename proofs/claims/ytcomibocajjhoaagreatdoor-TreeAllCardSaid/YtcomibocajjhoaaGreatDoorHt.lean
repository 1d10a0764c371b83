/- sha.Sum: the hash of a text, at once. Arrays of bytes, held against each other. The hash of "abc". oid: the word of a kind. -/
import Derived.Test.YtcomibocajjhoaaGreatDoorP3x
import Derived.ChangeKeysEq
import Derived.Test.YtcomibocajjhoaaGreatDoorU
import Derived.ProofKit
import Derived.Test.YtcomibocajjhoaaGreatDoorP1x
namespace Go.Proofs.YtcomibocajjhoaaGreatDoor
open Go.RowKit
theorem sum_end {W w3 : World} {xs : List Value} (hb : Below W.heap.size W w3) : Below W.heap.size W (w3.setRow W.heap.size xs.toArray) := below_setRow' hb (Nat.le_refl _) _
theorem sum_blk {W0 w1 w2 w3 : World} {p g : Nat} {r : Option Nat} (hz : Blk W0 p 29 zero32) (hn : W0.heap.size = p + 1) (h1 : Below W0.heap.size W0 w1) (h2 : Kept2 w1 w2 g r) (hr : r = none) (h3 : Below w2.heap.size w2 w3) (hg : W0.heap.size ≤ g) : Blk w3 p 29 zero32 :=
  Blk.below (w := w2) ((h2.block p (by have := h1.size; omega) (by omega) (by rw [hr]; simp)).trans (hz.below h1)) h3
theorem sum_low {W W0 w1 w2 w3 : World} {g : Nat} {r : Option Nat} (h0 : Below W.heap.size W W0) (h1 : Below W0.heap.size W0 w1) (h2 : Kept2 w1 w2 g r) (hr : r = none) (h3 : Below w2.heap.size w2 w3) (hg : W0.heap.size ≤ g) : Below W.heap.size W w3 := by
  have s0 := h0.size
  have s1 := h1.size
  have s2 := h2.size
  exact ((h0.trans (h1.mono s0)).trans (h2.toBelow (B := W.heap.size) (by omega) (by omega) (fun k e => by rw [hr] at e; cases e))).trans (h3.mono (by omega))
set_option maxRecDepth 100000 in
set_option maxHeartbeats 2000000 in
theorem shaSum_any (W : World) (A : Option Addr) (m c : Nat) (bs : List UInt8) (hs : Src W 1 A m (Bs bs)) (hA : ∀ ad, A = some ad → ad.block < W.heap.size) (hm : m ≤ 140737488355328) :
    Calls Tryz.prog 78 #[.slice A m c] W fun e W' => e = .returned (.agg (Bs (sha256 bs)).toArray) ∧ Below W.heap.size W W' := by
  have z32 := z32_eq
  have hl : bs.length = m := by have := hs.1; simpa using this
  have S0 := Lib.hid (hs.far (src_alloc hs (.cells zero32.toArray 29)))
  have A0 := Lib.hid hA
  have L0 := Lib.hid hl
  have B0 : Hid (Below W.heap.size W (W.alloc (.cells zero32.toArray 29))) := (Below.refl _ _).alloc (Nat.le_refl _) _
  have Z0 := Lib.hid (Blk.new W 29 zero32)
  have N0 : Hid ((W.alloc (.cells zero32.toArray 29)).heap.size = W.heap.size + 1) := hsz _ _
  clear hs hA hl
  go_enter Tryz.func78, Tryz.ntmps78
  go_wp2_with (first
    | (go_at_call 120; generalize W.alloc (.cells zero32.toArray 29) = W0 at *; refine (new_any W0).mono ?_; rintro e w1 ⟨g, rfl, hg, hH, hb⟩; have G1 := Lib.hid hg; have H1 := Lib.hid hH; have B1 := Lib.hid hb; clear hg hH hb)
    | (go_at_call 121; refine (put_any w1 W0.heap.size g st0 (.slice none 0 0) [] 0 A m c bs H1.out (src_below S0.out B1.out) (fun ad e => by have := A0.out ad e; have := G1.out; have := N0.out; omega) (by omega) (by omega) (by simp; omega) B1.out.size).mono ?_; rintro e w2 ⟨rfl, v2, h2, k2, r2⟩; rw [List.nil_append, Int.zero_add] at h2; have H2 := Lib.hid h2; have K2 := Lib.hid k2; clear h2 k2 r2)
    | (go_at_call 122; refine (sum_any w2 W0.heap.size g (absorb st0 bs).1 v2 (absorb st0 bs).2 m H2.out hm (by rw [absorb_mod]; omega)).mono ?_; rintro e w3 ⟨rfl, hb3⟩; have B3 := Lib.hid hb3; clear hb3)
    | (refine wpl_store rfl 29 (.tmp 2) _ rfl W.heap.size (Bs (digest (absorb st0 bs).1 (absorb st0 bs).2 m)) rfl rfl 29 zero32 (sum_blk Z0.out N0.out B1.out K2.out rfl B3.out G1.out) (by rw [Tryz.size32]; simp) (by simp [zero32]) (Bs_one _) ?_))
  refine bodyPost_ret (v := .agg (Bs (digest (absorb st0 bs).1 (absorb st0 bs).2 m)).toArray) (res_row rfl _ _ W.heap.size 29 _ 32 5 rfl ((sum_blk Z0.out N0.out B1.out K2.out rfl B3.out G1.out).row _) Tryz.underlying29 (by rw [Tryz.size32]; simp)) rfl ⟨?_, sum_end (sum_low B0.out B1.out K2.out rfl B3.out G1.out)⟩
  rw [← L0.out, digest_absorb]
end Go.Proofs.YtcomibocajjhoaaGreatDoor
namespace Go.Proofs.YtcomibocajjhoaaGreatDoor
open Go.RowKit
theorem eqItems_ints {P : Program} (w : World) (d : Nat) (e : TypeId) (k : IntKind) (he : P.underlying e = some (.int k)) (hp : P.plainKey e = true) (xs ys : Array Value) (X Y : Nat → Int) :
    ∀ is : List Nat, (∀ i ∈ is, xs[i]? = some (.int k (X i)) ∧ ys[i]? = some (.int k (Y i))) → (Op.eqItems (d + 1) e 1 xs ys is).run P w = .ok (is.all fun i => X i == Y i) w
  | [], _ => by simp [Op.eqItems]
  | i :: is, h => by
    obtain ⟨h1, h2⟩ := h i (.head _)
    have ih := eqItems_ints w d e k he hp xs ys X Y is (fun j hj => h j (.tail _ hj))
    simp only [Op.eqItems, Sem.run_bind, Nat.mul_one, run_part_plain w hp h1, run_part_plain w hp h2, Result.andThen_ok, run_equalIn_int w d e k k (X i) (Y i) he, List.all_cons]
    cases X i == Y i
    · simp
    · simpa using ih
theorem bytes_all (a b : List UInt8) (n : Nat) (ha : a.length = n) (hb : b.length = n) : ((List.range n).all fun i => ub (gb a i) == ub (gb b i)) = decide (a = b) := by
  by_cases h : a = b
  · rw [decide_eq_true h, h]; simp
  · rw [decide_eq_false h, Bool.eq_false_iff]
    intro hall
    apply h
    apply List.ext_getElem?
    intro j
    by_cases hj : j < n
    · have := List.all_eq_true.1 hall j (by simpa using hj)
      have h2 : gb a j = gb b j := ub_inj (by simpa using this)
      unfold gb at h2
      rw [List.getD_eq_getElem?_getD, List.getD_eq_getElem?_getD] at h2
      rw [List.getElem?_eq_getElem (by omega), List.getElem?_eq_getElem (by omega)] at h2 ⊢
      simpa using h2
    · rw [List.getElem?_eq_none (by omega), List.getElem?_eq_none (by omega)]
theorem eqIn_bytes (w : World) (t : TypeId) (ht : Tryz.prog.underlying t = some (.array 32 5)) (a b : List UInt8) (ha : a.length = 32) (hb : b.length = 32) :
    (Op.equalIn 10000 t (.agg (Bs a).toArray) (.agg (Bs b).toArray)).run Tryz.prog w = .ok (decide (a = b)) w := by
  obtain ⟨i, hi, hc⟩ : ∃ i, Tryz.prog.info? 5 = some i ∧ Tryz.prog.cellsOf 5 = 1 := by
    cases h : Tryz.prog.info? 5 with
    | none => have := Tryz.info5; rw [h] at this; cases this
    | some i => exact ⟨i, rfl, by kernel_rfl⟩
  rw [run_equalIn_array w 9999 _ _ ht hi, hc, eqItems_ints w 9998 5 .u8 (by kernel_rfl) (by kernel_rfl) _ _ (fun i => ub (gb a i)) (fun i => ub (gb b i)) _ (fun i hi => by
    have hi' : i < 32 := by simpa using hi
    exact ⟨by simpa using Bs_at a i (by omega), by simpa using Bs_at b i (by omega)⟩), bytes_all a b 32 ha hb]
end Go.Proofs.YtcomibocajjhoaaGreatDoor
namespace Go.Proofs.YtcomibocajjhoaaGreatDoor
open Go.RowKit
theorem abc_tail : [97, 98, 99] ++ tailB 3 3 = ([97, 98, 99, 128] ++ List.replicate 52 0 ++ [0, 0, 0, 0, 0, 0, 0, 24] : List UInt8) := by decide
theorem abc_absorb : (absorb st0 ([97, 98, 99] ++ tailB 3 3)).1 = mix st0 ([97, 98, 99] ++ tailB 3 3) := by
  rw [absorb_long st0 _ (by rw [abc_tail]; decide)]
  have e1 : (([97, 98, 99] : List UInt8) ++ tailB 3 3).take 64 = [97, 98, 99] ++ tailB 3 3 := by rw [abc_tail]; rfl
  have e2 : (([97, 98, 99] : List UInt8) ++ tailB 3 3).drop 64 = [] := by rw [abc_tail]; rfl
  rw [e1, e2, absorb_short _ _ (by decide)]
theorem sha_abc : sha256 [97, 98, 99] = outB (mix st0 ([97, 98, 99, 128] ++ List.replicate 52 0 ++ [0, 0, 0, 0, 0, 0, 0, 24])) := by
  have : sha256 [97, 98, 99] = outB (absorb (absorb st0 []).1 ([97, 98, 99] ++ tailB 3 3)).1 := by
    rw [absorb_short st0 [] (by decide)]
    rfl
  rw [this, absorb_short st0 [] (by decide), abc_absorb, abc_tail]
theorem abc0 : (sha256 [97, 98, 99])[0]? = some 0xba := by rw [sha_abc]; kernel_rfl
theorem abc1 : (sha256 [97, 98, 99])[1]? = some 0x78 := by rw [sha_abc]; kernel_rfl
theorem abc31 : (sha256 [97, 98, 99])[31]? = some 0xad := by rw [sha_abc]; kernel_rfl
end Go.Proofs.YtcomibocajjhoaaGreatDoor
namespace Go.Proofs.YtcomibocajjhoaaGreatDoor
open Go.RowKit
/-- The word of a kind, its bytes. -/
def wordB (k : Int) : ByteArray := if k = 1 then ⟨#[98, 108, 111, 98]⟩ else if k = 2 then ⟨#[116, 114, 101, 101]⟩ else if k = 3 then ⟨#[99, 111, 109, 109, 105, 116]⟩ else ⟨#[63]⟩
set_option maxHeartbeats 400000 in
theorem word_any (W : World) (k : Int) : Calls Tryz.prog 79 #[.int .i64 k] W fun e W' => e = .returned (.string (wordB k)) ∧ W' = W := by
  obtain ⟨x, hx⟩ : ∃ x, x = wordB k := ⟨_, rfl⟩
  rw [← hx]
  by_cases h1 : k = 1
  · subst h1
    go_enter Tryz.func79, Tryz.ntmps79
    go_wp2
    go_ret
    exact ⟨by rw [hx]; rfl, rfl⟩
  by_cases h2 : k = 2
  · subst h2
    go_enter Tryz.func79, Tryz.ntmps79
    go_wp2
    go_ret
    exact ⟨by rw [hx]; rfl, rfl⟩
  by_cases h3 : k = 3
  · subst h3
    go_enter Tryz.func79, Tryz.ntmps79
    go_wp2
    go_ret
    exact ⟨by rw [hx]; rfl, rfl⟩
  · have b1 : (k == 1) = false := by simp [h1]
    have b2 : (k == 2) = false := by simp [h2]
    have b3 : (k == 3) = false := by simp [h3]
    go_enter Tryz.func79, Tryz.ntmps79
    go_wp2
    go_ret
    exact ⟨by rw [hx]; simp [wordB, h1, h2, h3], rfl⟩
end Go.Proofs.YtcomibocajjhoaaGreatDoor
