/- begun: what its calls come to; what its walk keeps. A region's list of operations, cut in two. begun: one of each. -/
import Derived.Test.YtpbnigpdpkfpaaaGreatDoorSz
import Derived.Test.YtpbnigpdpkfpaaaGreatDoorP15x
import Derived.Test.YtpbnigpdpkfpaaaGreatDoorP1x
import Derived.Test.YtpbnigpdpkfpaaaGreatDoorP2x
import Derived.Test.YtpbnigpdpkfpaaaGreatDoorP3x
import Derived.WalkKit
import Derived.Lib.SlBytesConst
namespace Go.Proofs.YtpbnigpdpkfpaaaGreatDoor
open Go.RowKit
theorem rowQ_new (w : World) (xs : List Value) (T : TypeId) (n : Nat) (hn : xs.length = n) (hm : n ≤ maxLen) : RowQ (w.alloc (.cells xs.toArray T)) w.heap.size T 1 (.slice (some ⟨w.heap.size, 0, none⟩) n n) n xs :=
  ⟨by omega, .inr ⟨w.heap.size, 0, n, xs.toArray, rfl, Nat.le_refl _, Blk.new w T xs, Nat.le_refl _, hm, by simp; omega, by simp [← hn]⟩⟩
/-- What begun's walk keeps: all below, the hash's array. -/
structure Bg (W : World) (g1 : Nat) (w : World) : Prop where
  low : Below W.heap.size W w
  hash : Blk w g1 23 (Bs (sha256 [97, 98, 99]))
theorem Bg.next {W w w' : World} {g1 : Nat} (h : Bg W g1 w) (hb : Below w.heap.size w w') : Bg W g1 w' := ⟨h.low.trans (hb.mono h.low.size), h.hash.below hb⟩
theorem Bg.alloc {W w : World} {g1 : Nat} (h : Bg W g1 w) (o : Obj) : Bg W g1 (w.alloc o) := h.next ((Below.refl _ _).alloc (Nat.le_refl _) _)
structure Bh (W : World) (g1 g2 : Nat) (w : World) : Prop where
  bg : Bg W g1 w
  id : ∃ l : List UInt8, l.length = 32 ∧ Blk w g2 24 (Bs l)
theorem Bh.next {W w w' : World} {g1 g2 : Nat} (h : Bh W g1 g2 w) (hb : Below w.heap.size w w') : Bh W g1 g2 w' := ⟨h.bg.next hb, h.id.imp fun _ hl => ⟨hl.1, hl.2.below hb⟩⟩
theorem Bh.alloc {W w : World} {g1 g2 : Nat} (h : Bh W g1 g2 w) (o : Obj) : Bh W g1 g2 (w.alloc o) := h.next ((Below.refl _ _).alloc (Nat.le_refl _) _)
theorem RdAt.below {W W1 : World} {B g : Nat} {v : Value} {bs : List UInt8} (h : RdAt W B g v bs) (hb : Below W.heap.size W W1) : RdAt W1 B g v bs := ⟨h.1.below hb, h.2.1.below hb, h.2.2⟩
/-- begun's own fault. -/
theorem bgfail_any (W : World) : Calls Tryz.prog 174 #[] W fun e' W' => e' = faultOf 3 ∧ W' = W := by
  go_enter Tryz.func174, Tryz.ntmps174
  go_wp2_with (go_at_call 139; refine (fail_any _ 3).mono ?_; rintro e' w' ⟨rfl, rfl⟩)
  exact ⟨rfl, rfl, rfl⟩
theorem bgdo_any (W : World) : Calls Tryz.prog 35 #[.func (.func 174) #[] #[]] W fun e' W' => e' = .returned (.int .i64 3) ∧ Below W.heap.size W W' := by
  refine (do_fault W 174 #[] 3 (fun W2 => W2 = W.alloc (.cells #[.int .i64 0] 40)) (fun w => by kernel_rfl) ((bgfail_any _).mono ?_)).mono ?_
  · rintro e' W2 ⟨rfl, rfl⟩
    exact ⟨rfl, Blk.new W _ [.int .i64 0], rfl⟩
  · rintro e' W' ⟨rfl, W2, rfl, hk⟩
    refine ⟨rfl, ?_⟩
    have h0 : Below W.heap.size W (W.alloc (.cells #[.int .i64 0] 40)) := (Below.refl _ _).alloc (Nat.le_refl _) _
    exact h0.trans (hk.toBelow h0.size (Nat.le_refl _) (fun k e => by cases e))
theorem nan_any (W : World) : Calls Tryz.prog 183 #[] W fun e W' => e = .returned (.float .f64 9221120237041090561) ∧ W' = W := by
  have h2 := run_frombits
  go_enter Tryz.func183, Tryz.ntmps183
  go_wp2
  go_ret
  exact ⟨rfl, rfl⟩
theorem size_15k : sizeR [49, 46, 53, 107] = (4654470214887407616, true) := by kernel_rfl
theorem put_ab : putL [97, 98] = ([48, 48, 48, 54, 97, 98], true) := by decide
theorem get_ab : getR [48, 48, 48, 54, 97, 98, 48, 48, 48, 48] = (1, [97, 98], 6, 0) := by decide +kernel
theorem all_ab : allR [48, 48, 48, 54, 97, 98, 48, 48, 48, 49, 48, 48, 48, 48, 122] 0 [] = ([[97, 98], []], 14, 0) := by
  have g0 : getR ([48, 48, 48, 54, 97, 98, 48, 48, 48, 49, 48, 48, 48, 48, 122] : List UInt8) = (1, [97, 98], 6, 0) := by decide +kernel
  have g6 : getR ([48, 48, 48, 49, 48, 48, 48, 48, 122] : List UInt8) = (3, [], 4, 0) := by decide +kernel
  have g10 : getR ([48, 48, 48, 48, 122] : List UInt8) = (2, [], 4, 0) := by decide +kernel
  rw [allR]
  simp only [List.drop_zero, g0]
  rw [dif_pos trivial, if_neg (by decide), if_neg (by decide), allR]
  simp only [List.drop_succ_cons, List.drop_zero, Nat.zero_add, g6]
  rw [dif_pos trivial, if_neg (by decide), if_neg (by decide), allR]
  simp only [List.drop_succ_cons, List.drop_zero, Nat.reduceAdd, g10]
  rfl
theorem hex_one : hexS 4607182418800017408 = [51, 102, 102, 48, 48, 48, 48, 48, 48, 48, 48, 48, 48, 48, 48, 48] := by
  rw [hexS_ge (by decide), hexS_ge (by decide), hexS_ge (by decide), hexS_ge (by decide), hexS_ge (by decide), hexS_ge (by decide), hexS_ge (by decide), hexS_ge (by decide), hexS_ge (by decide), hexS_ge (by decide), hexS_ge (by decide), hexS_ge (by decide), hexS_ge (by decide), hexS_ge (by decide), hexS_ge (by decide), hexS_lt (by decide)]
  decide
theorem wput_one : wput 4607182418800017408 = [51, 102, 102, 48, 48, 48, 48, 48, 48, 48, 48, 48, 48, 48, 48, 48] := by
  have h : fmay 4607182418800017408 = true := by kernel_rfl
  unfold wput
  rw [h, hex_one]
  rfl
end Go.Proofs.YtpbnigpdpkfpaaaGreatDoor
namespace Go.Proofs.YtpbnigpdpkfpaaaGreatDoor
open Go.RowKit
section
variable {P : Program} {ops : Array Oper} {Q N : Exit → Act → World → Prop} {K : Act → World → Prop}
theorem oper_then {o : Oper} {a : Act} {w : World} {next : Act → World → Prop} (h : o.wp P a w next (Exit.then K Q)) : o.wp P a w next Q := by
  unfold Oper.wp at *
  generalize (execOp a.eval o).run P w = r at *
  cases r with
  | ok n w' =>
    cases n <;> simp only [Oper.upon] at h ⊢ <;>
      first
        | exact h
        | exact Calls.mono h (fun e w'' he => by cases e <;> exact he)
  | halt x w' => cases x <;> simp only [Oper.upon] at h ⊢ <;> exact h
theorem wpList_seq (l2 : List Oper) : ∀ (l1 : List Oper) (a : Act) (w : World), wpList P ops (Exit.then (fun a w => wpList P ops Q l2 a w) Q) l1 a w → wpList P ops Q (l1 ++ l2) a w
  | [], _, _, h => h
  | o :: l1, a, w, h => by
    show wpList P ops Q (o :: (l1 ++ l2)) a w
    unfold wpList at h ⊢
    split at h
    · rename_i hw
      rw [if_pos hw]
      rcases h with h | ⟨h1, h2⟩
      · exact .inl (oper_then (Oper.wp_mono (fun a w => wpList_seq l2 l1 a w) h))
      · exact .inr ⟨h1, h2⟩
    · rename_i hw
      rw [if_neg hw]
      exact wpList_seq l2 l1 _ _ h
/-- The first n operations, then the others: the walk stops between. -/
theorem wp_region_split {id : Nat} {l : List Oper} {a : Act} {w : World} (n : Nat)
    (h : ∀ K : Act → World → Prop, (∀ a w, wpList P l.toArray Q (l.drop n) a w → K a w) → wpList P l.toArray (Exit.then K Q) (l.take n) a w) : (Code.region id l.toArray false).wp P Q a w := by
  refine wp_region_lit ?_
  have := wpList_seq (P := P) (ops := l.toArray) (Q := Q) (l.drop n) (l.take n) a w (h _ fun _ _ h => h)
  rwa [List.take_append_drop] at this
/-- A guard that holds is struck. -/
theorem wpl_guard {o : Oper} {rest : List Oper} {a : Act} {w : World} (hgd : Region.wanted o (yielded ops a.tmps) = true) (h : wpList P ops Q ({ o with guard := none } :: rest) a w) : wpList P ops Q (o :: rest) a w := by
  unfold wpList at h ⊢
  rw [if_pos hgd]
  rw [if_pos (by simp [Region.wanted])] at h
  exact h
end
end Go.Proofs.YtpbnigpdpkfpaaaGreatDoor
namespace Go.Proofs.YtpbnigpdpkfpaaaGreatDoor
open Go.RowKit
theorem Bs_get {l : List UInt8} {j : Nat} {b : UInt8} (h : l[j]? = some b) : (Bs l)[j]? = some (.int .u8 (ub b)) := by simp [Bs, h]
theorem src_newF (w : World) (xs : List Value) (T : TypeId) (fr : Nat × Nat) (h1 : ∀ u ∈ xs, u.oneCell' = true) : Src (w.alloc (.cells xs.toArray T fr)) 1 (some ⟨w.heap.size, 0, none⟩) xs.length xs := by
  refine ⟨by simp, fun _ => ⟨_, rfl, fun j u hu => ?_⟩, h1⟩
  have ha : (⟨w.heap.size, 0, none⟩ : Addr).add j = ⟨w.heap.size, j, none⟩ := by unfold Addr.add; split <;> simp_all
  rw [ha, cell_of_row _ w.heap.size j _ T fr (heap_alloc_new w _)]
  simpa using hu
set_option maxRecDepth 100000 in
set_option maxHeartbeats 4000000 in
theorem begun_any (W : World) (hG : Gl W) : Calls Tryz.prog 123 #[] W fun e W' => e = .returned (.bool true) ∧ Below W.heap.size W W' := by
  have z32 := z32_eq
  have z72 : (Obj.cells #[.int .u8 0, .int .u8 0, .int .u8 0, .int .u8 0, .int .u8 0, .int .u8 0, .int .u8 0, .int .u8 0, .int .u8 0, .int .u8 0, .int .u8 0, .int .u8 0, .int .u8 0, .int .u8 0, .int .u8 0, .int .u8 0, .int .u8 0, .int .u8 0, .int .u8 0, .int .u8 0, .int .u8 0, .int .u8 0, .int .u8 0, .int .u8 0, .int .u8 0, .int .u8 0, .int .u8 0, .int .u8 0, .int .u8 0, .int .u8 0, .int .u8 0, .int .u8 0] 24 : Obj) = .cells zero32.toArray 24 := rfl
  have hcv := fun (w : World) (C : Array Value) (n c : Nat) => Lib.run_convert_bytes_const (P := Tryz.prog) w 53 5 C n c Tryz.underlying53 (by kernel_rfl)
  have HG := Lib.hid hG
  have L0 : Hid (Below W.heap.size W (W.alloc (.cells (Bs [97, 98, 99]).toArray 5 (3, 4)))) := (Below.refl _ _).alloc (Nat.le_refl _) _
  have S0 := Lib.hid (src_newF W (Bs [97, 98, 99]) 5 (3, 4) (Bs_one _))
  have c28 := shaSum_any (W.alloc (.cells (Bs [97, 98, 99]).toArray 5 (3, 4))) (some ⟨W.heap.size, 0, none⟩) 3 3 [97, 98, 99] S0.out (fun ad e => by obtain rfl := Option.some.inj e; rw [hsz]; exact Nat.lt_succ_self _) (by omega)
  have C28 := Lib.hid c28
  clear hG c28
  go_enter Tryz.func123, Tryz.ntmps123
  go_upto_region 2 with (first
    | (go_at_call 130; refine C28.out.mono ?_; rintro e w1 ⟨rfl, hb⟩; have L1 := Lib.hid (L0.out.trans (hb.mono L0.out.size)); clear hb)
    | (refine wpl_store rfl 23 (.tmp 1) _ rfl w1.heap.size (Bs (sha256 [97, 98, 99])) rfl rfl 23 zero32 (Blk.new w1 _ _) (by rw [Tryz.size32]; simp) (by simp [zero32]) (Bs_one _) ?_))
  have K2 : Hid (Bg W w1.heap.size ((w1.alloc (.cells zero32.toArray 23)).setRow w1.heap.size (Bs (sha256 [97, 98, 99])).toArray)) :=
    ⟨below_setRow' (L1.out.alloc L1.out.size _) L1.out.size _, (Blk.new w1 _ _).row _⟩
  generalize (w1.alloc (.cells zero32.toArray 23)).setRow w1.heap.size (Bs (sha256 [97, 98, 99])).toArray = w2 at K2 ⊢
  generalize w1.heap.size = g1 at K2 ⊢
  clear L0 S0 C28 L1
  have hz1 : ((⟨#[48, 48, 48, 54, 97, 98]⟩ : ByteArray) ++ ⟨#[48, 48, 48, 48]⟩) = ⟨#[48, 48, 48, 54, 97, 98, 48, 48, 48, 48]⟩ := ba_ext (by rw [ba_append]; rfl)
  have hz2 : ((⟨#[48, 48, 48, 54, 97, 98]⟩ : ByteArray) ++ ⟨#[48, 48, 48, 49]⟩) = ⟨#[48, 48, 48, 54, 97, 98, 48, 48, 48, 49]⟩ := ba_ext (by rw [ba_append]; rfl)
  have hz3 : ((⟨#[48, 48, 48, 54, 97, 98, 48, 48, 48, 49]⟩ : ByteArray) ++ ⟨#[48, 48, 48, 48]⟩) = ⟨#[48, 48, 48, 54, 97, 98, 48, 48, 48, 49, 48, 48, 48, 48]⟩ := ba_ext (by rw [ba_append]; rfl)
  have hz4 : ((⟨#[48, 48, 48, 54, 97, 98, 48, 48, 48, 49, 48, 48, 48, 48]⟩ : ByteArray) ++ ⟨#[122]⟩) = ⟨#[48, 48, 48, 54, 97, 98, 48, 48, 48, 49, 48, 48, 48, 48, 122]⟩ := ba_ext (by rw [ba_append]; rfl)
  have c42 : ∀ w, Gl w → Calls Tryz.prog 177 #[.string ⟨#[49, 46, 53, 107]⟩] w fun e W' => e = .returned (.tuple #[.float .f64 4654470214887407616, .bool true]) ∧ Below w.heap.size w W' := fun w h => by
    have := size_any w ⟨#[49, 46, 53, 107]⟩ (Nat.le_of_ble_eq_true rfl) h
    rw [show (ByteArray.mk #[49, 46, 53, 107]).data.toList = [49, 46, 53, 107] from rfl, size_15k] at this
    exact this
  have c79 : ∀ w, Gl w → Calls Tryz.prog 70 #[.int .i64 1, .string ⟨#[120]⟩] w fun e W' => e = .returned (.agg (Bs (sha256 (ofL 1 [120]))).toArray) ∧ Below w.heap.size w W' := fun w h => of_any w 1 ⟨#[120]⟩ (Nat.le_of_ble_eq_true rfl) h
  have c45 : ∀ w, Gl w → Calls Tryz.prog 178 #[.string ⟨#[97, 98]⟩] w fun e W' => e = .returned (.tuple #[.string ⟨#[48, 48, 48, 54, 97, 98]⟩, .bool true]) ∧ Below w.heap.size w W' := fun w h => by
    have := lput_any w ⟨#[97, 98]⟩ (Nat.le_of_ble_eq_true rfl) h.deb
    rw [show (ByteArray.mk #[97, 98]).data.toList = [97, 98] from rfl, put_ab] at this
    exact this
  have c55 : ∀ w, Gl w → Calls Tryz.prog 179 #[.string ⟨#[48, 48, 48, 54, 97, 98, 48, 48, 48, 48]⟩] w fun e W' => e = .returned (.tuple #[.int .i64 1, .string ⟨#[97, 98]⟩, .int .i64 6, .int .i64 0]) ∧ Below w.heap.size w W' := fun w h => by
    have := get_any w ⟨#[48, 48, 48, 54, 97, 98, 48, 48, 48, 48]⟩ (Nat.le_of_ble_eq_true rfl) h.deb
    rw [show (ByteArray.mk #[48, 48, 48, 54, 97, 98, 48, 48, 48, 48]).data.toList = [48, 48, 48, 54, 97, 98, 48, 48, 48, 48] from rfl, get_ab] at this
    exact this
  have c48 : ∀ w, Gl w → Calls Tryz.prog 180 #[.string ⟨#[48, 48, 48, 54, 97, 98, 48, 48, 48, 49, 48, 48, 48, 48, 122]⟩] w fun e W' => ∃ A c, e = .returned (.tuple #[.slice A 2 c, .int .i64 14, .int .i64 0]) ∧ Below w.heap.size w W' := fun w h => by
    refine (all_any w ⟨#[48, 48, 48, 54, 97, 98, 48, 48, 48, 49, 48, 48, 48, 48, 122]⟩ (Nat.le_of_ble_eq_true rfl) h.deb).mono ?_
    rintro e W' ⟨v, he, hr, hb⟩
    rw [show (ByteArray.mk #[48, 48, 48, 54, 97, 98, 48, 48, 48, 49, 48, 48, 48, 48, 122]).data.toList = [48, 48, 48, 54, 97, 98, 48, 48, 48, 49, 48, 48, 48, 48, 122] from rfl, all_ab] at he hr
    obtain ⟨A, c, rfl, _⟩ := hr.shape
    exact ⟨A, c, he, hb⟩
  have c65 : ∀ w, Gl w → Calls Tryz.prog 112 #[.float .f64 4607182418800017408] w fun e W' => e = .returned (.string ⟨#[51, 102, 102, 48, 48, 48, 48, 48, 48, 48, 48, 48, 48, 48, 48, 48]⟩) ∧ Below w.heap.size w W' := fun w h => by
    have := wput_any w 4607182418800017408 (by omega) h
    rw [wput_one] at this
    exact this
  have cn := norm_neg0
  have C42 := Lib.hid c42
  have C79 := Lib.hid c79
  have C45 := Lib.hid c45
  have C55 := Lib.hid c55
  have C48 := Lib.hid c48
  have C65 := Lib.hid c65
  have CN := Lib.hid cn
  clear c42 c79 c45 c55 c48 c65 cn
  go_upto_region 6 with (first
    | (go_at_call 35; refine (bgdo_any _).mono ?_; rintro e w3 ⟨rfl, hb⟩; have K3 := Lib.hid (K2.out.next hb); clear hb)
    | (go_at_call 176; refine (copysign_neg0 _).mono ?_; rintro e w' ⟨rfl, hw⟩; subst hw)
    | (go_at_call 175; refine (norm_any _ _).mono ?_; rintro e w' ⟨he, hw⟩; subst hw; rw [CN.out] at he; subst he)
    | (go_at_call 177; refine (C42.out _ (HG.out.below K3.out.low)).mono ?_; rintro e w4 ⟨rfl, hb⟩; have K4 := Lib.hid (K3.out.next hb); clear hb)
    | (go_at_call 70; refine (C79.out _ (HG.out.below K4.out.low)).mono ?_; rintro e w5 ⟨rfl, hb⟩; have K5 := Lib.hid (K4.out.next hb); clear hb)
    | (refine wpl_store rfl 24 (.tmp 7) _ rfl w5.heap.size (Bs (sha256 (ofL 1 [120]))) rfl rfl 24 zero32 (Blk.new w5 _ _) (by rw [Tryz.sizeId]; simp) (by simp [zero32]) (Bs_one _) ?_))
  have K6 : Hid (Bh W g1 w5.heap.size ((w5.alloc (.cells zero32.toArray 24)).setRow w5.heap.size (Bs (sha256 (ofL 1 [120]))).toArray)) :=
    ⟨⟨below_setRow' (K5.out.low.alloc K5.out.low.size _) K5.out.low.size _, (K5.out.hash.alloc _).rowFar (by have := K5.out.hash.lt; omega) _⟩, _, by simp, (Blk.new w5 _ _).row _⟩
  generalize (w5.alloc (.cells zero32.toArray 24)).setRow w5.heap.size (Bs (sha256 (ofL 1 [120]))).toArray = w6 at K6 ⊢
  generalize w5.heap.size = g2 at K6 ⊢
  clear K2 K3 K4 K5 C42 C79 CN z32 z72 hcv
  go_upto_region 10 with (first
    | (go_at_call 178; refine (C45.out _ (HG.out.below K6.out.bg.low)).mono ?_; rintro e w7 ⟨rfl, hb⟩; have K7 := Lib.hid (K6.out.next hb); clear hb)
    | (go_at_call 179; refine (C55.out _ (HG.out.below K7.out.bg.low)).mono ?_; rintro e w8 ⟨rfl, hb⟩; have K8 := Lib.hid (K7.out.next hb); clear hb)
    | (go_at_call 181; refine (delim_any _ (HG.out.below K8.out.bg.low).deb).mono ?_; rintro e w9 ⟨rfl, hb⟩; have K9 := Lib.hid (K8.out.next hb); clear hb)
    | (go_at_call 182; refine (flush_any _ (HG.out.below K9.out.bg.low).deb).mono ?_; rintro e w10 ⟨rfl, hb⟩; have K10 := Lib.hid (K9.out.next hb); clear hb)
    | (go_at_call 180; refine (C48.out _ (HG.out.below K10.out.bg.low)).mono ?_; rintro e w11 ⟨A11, c11, rfl, hb⟩; have K11 := Lib.hid (K10.out.next hb); clear hb)
    | (go_at_call 34; refine (gnew_row _ w11.heap.size (some ⟨w11.heap.size, 0, none⟩) 2 2 [7, 8] (rowQ_new w11 (Bs [7, 8]) 5 2 rfl (by decide)) (by omega)).mono ?_; rintro e w12 ⟨gr, vr, rfl, hgr, hrd, hb⟩; have K12 := Lib.hid ((K11.out.alloc _).next hb); have R12 := Lib.hid hrd; have GR := Lib.hid hgr; clear hgr hrd hb))
  clear K6 K7 K8 K9 K10 C45 C55 C48 hz1 hz2 hz3 hz4
  obtain ⟨l, hl, hid⟩ := K12.out.id
  obtain ⟨Ar, cr, rfl, hcr, hmr⟩ := R12.out.2.1.shape
  have x0 : w12.cell? ⟨g1, 0, none⟩ = some (.int .u8 186) := K12.out.bg.hash.cell 0 _ (by rw [Bs_get abc0]; rfl)
  have x1 : w12.cell? ⟨g1, 1, none⟩ = some (.int .u8 120) := K12.out.bg.hash.cell 1 _ (by rw [Bs_get abc1]; rfl)
  have x31 : w12.cell? ⟨g1, 31, none⟩ = some (.int .u8 173) := K12.out.bg.hash.cell 31 _ (by rw [Bs_get abc31]; rfl)
  have f1 : (FloatKind.f64.format.order 0 0 == some Ordering.eq) = true := by kernel_rfl
  have f2 : ∀ w, (binOp .quo 26 (.float .f64 4607182418800017408) (.float .f64 0)).run Tryz.prog w = .ok (.float .f64 9218868437227405312) w := fun w => run_float_arith w .quo 26 .f64 _ _ _ (by kernel_rfl)
  have f3 : (FloatKind.f64.format.order 9218868437227405312 0 == some Ordering.gt) = true := by kernel_rfl
  have f4 : (FloatKind.f64.format.order 4654470214887407616 4654470214887407616 == some Ordering.eq) = true := by kernel_rfl
  obtain ⟨h64, hh64⟩ : ∃ h : ByteArray, h = ⟨(hexL l).toArray⟩ := ⟨_, rfl⟩
  have hs64 : h64.size = 64 := by rw [hh64, ba_size]; simp [hl]
  have chex := hex_any w12 l hl
  rw [← hh64] at chex
  have CH := Lib.hid chex
  have HID := Lib.hid hid
  have HL := Lib.hid hl
  clear hid hl hh64 chex
  go_upto_region 12 with fail
  refine wp_region_split 37 ?_
  intro K hK
  simp only [List.append_eq, List.cons_append, List.nil_append, List.take_succ_cons, List.take_zero, List.drop_succ_cons, List.drop_zero] at hK ⊢
  have HK := Lib.hid hK
  clear hK
  go_wp2
  refine HK.out _ _ ?_
  refine wpl_guard (by rfl) ?_
  refine wpl_load rfl 24 (.tmp 7) rfl g2 rfl 24 (Bs l) HID.out 32 5 Tryz.underlying24 (by rw [Tryz.sizeId]; simp [HL.out]) ?_
  clear HK x0 x1 x31
  go_wp2_with (first
    | (go_at_call 111; refine CH.out.mono ?_; rintro e w13 ⟨rfl, hb⟩; have K13 := Lib.hid (K12.out.next hb); have R13 := Lib.hid (R12.out.below hb); clear hb)
    | (go_at_call 39; refine (left_any _ gr Ar 2 cr (R13.out.1.cell 0 (.slice Ar 2 cr) rfl) (by omega)).mono ?_; rintro e w' ⟨rfl, hw⟩; replace hw := hw.symm; subst hw)
    | (go_at_call 83; refine (byte_some w13 _ gr Ar cr 7 [8] R13.out (by decide)).mono ?_; rintro e w14 ⟨he, v2, hrd, hk, ho⟩; rw [show ub 7 = (7 : Int) from rfl] at he; subst he; have L14 : Hid (Below W.heap.size W w14) := (K13.out.bg.low.trans (hk.toBelow K13.out.bg.low.size (by have := GR.out; rw [hsz] at this; have := K11.out.bg.low.size; omega) (fun k e => by cases e))); clear hrd hk ho)
    | (go_at_call 112; refine (C65.out _ (HG.out.below L14.out)).mono ?_; rintro e w15 ⟨rfl, hb⟩; have L15 := Lib.hid (L14.out.trans (hb.mono L14.out.size)); clear hb)
    | (go_at_call 183; refine (nan_any _).mono ?_; rintro e w' ⟨rfl, hw⟩; replace hw := hw.symm; subst hw)
    | (go_at_call 133; refine (may_any _ _).mono ?_; rintro e w' ⟨he, hw⟩; replace hw := hw.symm; subst hw; rw [may_nan] at he; subst he))
  go_ret
  exact ⟨rfl, L15.out⟩
end Go.Proofs.YtpbnigpdpkfpaaaGreatDoor
