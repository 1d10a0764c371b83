/- oid.Of: the name of an object. The document's SHA-256: one block more; the whole. Whether a region's operations may stand in their written order: a check that goes over the list once. A region that draws its order: a row of its operations that look at no memory, taken first, one after the other; what else it does stands in whatever order. -/
import Derived.Test.YtpbnigpdpkfpaaaGreatDoorP3x
import Derived.Test.YtpbnigpdpkfpaaaGreatDoorP2x
import Derived.Test.YtpbnigpdpkfpaaaGreatDoorP5x
import Derived.Deep.QuietTactic
import Derived.BigQuiet
import Derived.RegionTactic
namespace Go.Proofs.YtpbnigpdpkfpaaaGreatDoor
open Go.RowKit
@[simp] theorem sha256_length (bs : List UInt8) : (sha256 bs).length = 32 := by
  unfold sha256
  simp
/-- What is hashed. -/
def ofL (k : Int) (l : List UInt8) : List UInt8 := (wordB k).data.toList ++ [32] ++ Lib.decDigits l.length ++ [0] ++ l
theorem wordB_size (k : Int) : (wordB k).size ≤ 6 := by
  unfold wordB
  split
  · exact Nat.le_of_ble_eq_true rfl
  · split
    · exact Nat.le_of_ble_eq_true rfl
    · split
      · exact Nat.le_of_ble_eq_true rfl
      · exact Nat.le_of_ble_eq_true rfl
theorem dec_len' (k : Nat) : ∀ n, n < 10 ^ (k + 1) → (Lib.decDigits n).length ≤ k + 1 := by
  induction k with
  | zero => intro n h; rw [Lib.decDigits, dif_pos (by simpa using h)]; simp
  | succ k ih =>
    intro n h
    rw [Lib.decDigits]
    split
    · simp
    · rw [List.length_append]
      have := ih (n / 10) (by rw [Nat.pow_succ] at h; omega)
      simp; omega
theorem dec_len (n : Nat) (h : n ≤ 140737488355328) : (Lib.decDigits n).length ≤ 20 := by
  have := dec_len' 19 n (by omega)
  omega
theorem of_blk {W w1 w2 w3 : World} (h1 : Below (W.heap.size + 1) (W.alloc (.cells zero32.toArray 24)) w1) (h2 : Below w1.heap.size w1 w2) (h3 : Below w2.heap.size w2 w3) :
    Blk w3 W.heap.size 24 zero32 ∧ Below W.heap.size W w3 ∧ W.heap.size + 1 ≤ w3.heap.size := by
  have s1 := h1.size
  have s2 := h2.size
  have s3 := h3.size
  rw [hsz] at s1
  have b0 := Blk.new W 24 zero32
  have b1 : Blk w1 W.heap.size 24 zero32 := b0.belowB h1 (by omega)
  refine ⟨(b1.below h2).below h3, ?_, by omega⟩
  have l0 : Below W.heap.size W (W.alloc (.cells zero32.toArray 24)) := (Below.refl _ _).alloc (Nat.le_refl _) _
  exact ((l0.trans (h1.mono (by omega))).trans (h2.mono (by omega))).trans (h3.mono (by omega))
set_option maxRecDepth 100000 in
set_option maxHeartbeats 1000000 in
theorem of_any (W : World) (k : Int) (s : ByteArray) (hs : s.size ≤ 1099511627776) (hG : Gl W) : Calls Tryz.prog 70 #[.int .i64 k, .string s] W fun e W' => e = .returned (.agg (Bs (sha256 (ofL k s.data.toList))).toArray) ∧ Below W.heap.size W W' := by
  have z32 := z32_eq
  have hz := ba_size s
  obtain ⟨d, hd⟩ : ∃ d : ByteArray, d = ⟨(Lib.decDigits s.size).toArray⟩ := ⟨_, rfl⟩
  have hd20 : d.size ≤ 20 := by rw [hd]; exact dec_len _ (by omega)
  obtain ⟨q, hq⟩ : ∃ q, q = wordB k := ⟨_, rfl⟩
  have hq6 : q.size ≤ 6 := by rw [hq]; exact wordB_size k
  have hG0 : Gl (W.alloc (.cells zero32.toArray 24)) := hG.below ((Below.refl _ _).alloc (Nat.le_refl _) _)
  have HG := Lib.hid hG0
  have hw := word_any (W.alloc (.cells zero32.toArray 24)) k
  rw [← hq] at hw
  have hi := itoa_any (W.alloc (.cells zero32.toArray 24)) s.size (by omega) hG0
  rw [← hd] at hi
  have HW := Lib.hid hw
  have HI := Lib.hid hi
  have HD := Lib.hid hd
  have HQ := Lib.hid hq
  have HZ := Lib.hid hz
  clear hG hG0 hw hi hd hq hz
  obtain ⟨t, ht⟩ : ∃ t : ByteArray, q ++ { data := #[32] } ++ d ++ { data := #[0] } ++ s = t := ⟨_, rfl⟩
  have ht2 : t.data.toList = ofL k s.data.toList := by
    rw [← ht]; simp only [ba_append]; rw [HD.out, HQ.out, HZ.out]; rfl
  have hts : t.size ≤ 140737488355328 := by
    rw [← ht]; simp only [ByteArray.size_append]
    have e1 : (ByteArray.mk #[32]).size = 1 := rfl
    have e2 : (ByteArray.mk #[0]).size = 1 := rfl
    omega
  have T := Lib.hid ht
  have T2 := Lib.hid ht2
  have HH := hsz W (.cells zero32.toArray 24)
  have HH := Lib.hid HH
  clear ht ht2 z32
  go_enter Tryz.func70, Tryz.ntmps70
  go_wp2_with (first
    | (go_at_call 131; refine HW.out.mono ?_; rintro e w' ⟨rfl, rfl⟩)
    | (go_at_call 132; refine HI.out.mono ?_; rintro e w1 ⟨rfl, hb⟩; rw [HH.out] at hb; have B1 := Lib.hid hb; obtain ⟨c2, w2, hcv, hsrc, hbw, hsz2, hc2⟩ := conv_bytes w1 t; have C2 := Lib.hid hcv; have S2 := Lib.hid hsrc; have B2 := Lib.hid hbw; have N2 := Lib.hid hsz2; clear hb hcv hsrc hbw hsz2 hc2)
    | (refine wpl_convw rfl 9 53 _ rfl _ (congrArg Value.string T.out) _ w2 C2.out ?_)
    | (go_at_call 130; refine (shaSum_any w2 _ t.size c2 t.data.toList S2.out (fun ad e => by obtain rfl := Option.some.inj e; show w1.heap.size < w2.heap.size; have := N2.out; omega) hts).mono ?_; rintro e w3 ⟨rfl, hb⟩; have B3 := Lib.hid hb; clear hb)
    | (refine wpl_store rfl 24 (.tmp 4) _ rfl W.heap.size (Bs (sha256 t.data.toList)) rfl rfl 24 zero32 (of_blk B1.out B2.out B3.out).1 (by rw [Tryz.sizeId]; simp) (by simp [zero32]) (Bs_one _) ?_))
  obtain ⟨hb1, hb2, hb3⟩ := of_blk B1.out B2.out B3.out
  refine bodyPost_ret (v := .agg (Bs (sha256 t.data.toList)).toArray) (res_row rfl _ _ W.heap.size 24 _ 32 5 rfl (hb1.row _) Tryz.underlying24 (by rw [Tryz.sizeId]; simp)) rfl ⟨?_, below_setRow' hb2 (Nat.le_refl _) _⟩
  rw [T2.out]
end Go.Proofs.YtpbnigpdpkfpaaaGreatDoor
namespace Go.Proofs.YtpbnigpdpkfpaaaGreatDoor
open Go.RowKit
theorem shl8_or (x : BitVec 32) (b : UInt8) : x <<< 8 ||| byteW b = x <<< 8 + byteW b := by
  symm
  apply BitVec.add_eq_or_of_and_eq_zero
  apply BitVec.eq_of_getLsbD_eq
  intro i hi
  unfold byteW
  by_cases h : i < 8
  · simp [h]
  · have : b.toBitVec.getLsbD i = false := BitVec.getLsbD_of_ge _ _ (by omega)
    simp [this]
/-- A word of four bytes, as a sum. -/
theorem part_sum (bs : List UInt8) (t : Nat) :
    byteW (gb bs (4 * t)) <<< 24 + byteW (gb bs (4 * t + 1)) <<< 16 + byteW (gb bs (4 * t + 2)) <<< 8 + byteW (gb bs (4 * t + 3)) = part bs t 4 := by
  show _ = ((((0 : BitVec 32) <<< 8 ||| byteW (gb bs (4 * t))) <<< 8 ||| byteW (gb bs (4 * t + 1))) <<< 8 ||| byteW (gb bs (4 * t + 2))) <<< 8 ||| byteW (gb bs (4 * t + 3))
  rw [shl8_or, shl8_or, shl8_or, shl8_or]
  apply BitVec.eq_of_toNat_eq
  simp only [BitVec.toNat_add, BitVec.toNat_shiftLeft, Nat.shiftLeft_eq]
  rw [show (BitVec.toNat (0 : BitVec 32)) = 0 from rfl]
  omega
theorem un_shl24m (x : BitVec 32) : un x * 16777216 % 4294967296 = un (x <<< 24) := un_shlm x 24
theorem un_shl16m (x : BitVec 32) : un x * 65536 % 4294967296 = un (x <<< 16) := un_shlm x 16
theorem un_notm (x : BitVec 32) : (4294967295 - un x) % 4294967296 = un (~~~ x) := by
  have h1 := un_nonneg x
  have h2 := un_lt x
  have h3 : (~~~ x).toNat = 4294967295 - x.toNat := by rw [BitVec.toNat_not]
  unfold un at *
  rw [h3]
  omega
theorem word_val (a b c d : BitVec 32) : (un a * 16777216 + un b * 65536 + un (c <<< 8) + un d) % 4294967296 = un (a <<< 24 + b <<< 16 + c <<< 8 + d) := by
  rw [← un_sum4, ← un_shl24m, ← un_shl16m]; omega
theorem ch_or (e f g : BitVec 32) : (e &&& f ||| ~~~ e &&& g) = (e &&& f ^^^ ~~~ e &&& g) := by
  rw [← not_sub, ch_eq, not_sub]
attribute [local go_sem] un_add un_shl8 un_of_byte un_addm un_and un_or un_xor un_not un_not' un_shl8m un_shl24m un_shl16m un_notm un_shr3 un_shr10 ub_mod un_mod ch_or maj_eq
theorem Tryz.infoU : (Tryz.prog.info? 207).map (fun i => (i.zero, i.size, i.bytes)) = some (some (.int .u32 0), 1, 4) := by kernel_rfl
theorem Us_snoc (l : List (BitVec 32)) (x : BitVec 32) : Us l ++ [.int .u32 (un x)] = Us (l ++ [x]) := by simp [Us]
/-- The words, what is added: in a world. -/
def Mx2 (w W : World) (p : Nat) (l : List (BitVec 32)) : Prop := Mx0 w W l (List.replicate 8 0) ∧ w.heap.size + 2 ≤ p ∧ Blk W p 243 (Us ks)
theorem Mx2.new {w w2 : World} {l : List (BitVec 32)} (h : Mx0 w w2 l (List.replicate 8 0)) :
    Mx2 w ((w2.alloc (.cells zero64.toArray 243)).setRow w2.heap.size (Us ks).toArray) w2.heap.size l :=
  ⟨(h.alloc _).setRow h.lt _, h.lt, (Blk.new w2 243 zero64).row _⟩
theorem Mx2.grown {w W W1 : World} {p : Nat} {l : List (BitVec 32)} {row : Option Nat} (h : Mx2 w W p l) (hg : W.grownBy W1 row) (hr : ∀ k, row = some k → p + 1 ≤ k) : Mx2 w W1 p l := by
  obtain ⟨h0, hp, h1⟩ := h
  refine ⟨⟨h0.1.grown hg (by have := h0.lt; omega) (fun k e => by have := hr k e; omega), h0.2.1.grown hg (fun e => by have := hr _ e.symm; omega), h0.2.2.grown hg (fun e => by have := hr _ e.symm; omega)⟩, hp, h1.grown hg (fun e => by have := hr _ e.symm; omega)⟩
theorem Mx2.drewN {w W : World} {p : Nat} {l : List (BitVec 32)} (h : Mx2 w W p l) (n : Nat) : Mx2 w (W.drewN n) p l := ⟨h.1.drewN n, h.2.1, h.2.2⟩
theorem Mx2.drew {w W : World} {p : Nat} {l : List (BitVec 32)} (h : Mx2 w W p l) : Mx2 w W.drew p l := h.drewN 1
theorem Mx2.alloc {w W : World} {p : Nat} {l : List (BitVec 32)} (h : Mx2 w W p l) (o : Obj) : Mx2 w (W.alloc o) p l := ⟨h.1.alloc o, h.2.1, h.2.2.alloc o⟩
theorem Mx2.lt {w W : World} {p : Nat} {l : List (BitVec 32)} (h : Mx2 w W p l) : p + 1 ≤ W.heap.size := h.2.2.lt
theorem Mx2.setRow {w W : World} {p : Nat} {l : List (BitVec 32)} (h : Mx2 w W p l) {g : Nat} (hg : p + 1 ≤ g) (cs : Array Value) : Mx2 w (W.setRow g cs) p l := by
  have := h.2.1
  exact ⟨h.1.setRow (by omega) _, h.2.1, h.2.2.rowFar (by omega) _⟩
theorem Mx2.box {w W : World} {p : Nat} {l : List (BitVec 32)} (h : Mx2 w W p l) (k : Nat) (x : BitVec 32) : Mx2 w (W.setCell ⟨w.heap.size, k, none⟩ (.int .u32 (un x))) p (l.set k x) := by
  obtain ⟨⟨h0, hl, hr⟩, hp, h1⟩ := h
  exact ⟨⟨h0.setCell (Nat.le_refl _) _, by rw [← Us_set]; exact hl.setCell k _, hr.far (by simp) _⟩, hp, h1.far (by simp; omega) _⟩
/-- .. the words of the block in their row, the eight words. -/
def Mx3 (w W : World) (p q g o c : Nat) (ws l v : List (BitVec 32)) : Prop :=
  RowQ W (p + 1) 207 1 (.slice (some ⟨g, o, none⟩) 64 c) 64 (Us ws) ∧ Mx2 w W p l ∧ Blk W q 208 (Us v) ∧ p + 1 ≤ q ∧ g ≠ q ∧ p + 1 ≤ g
theorem Mx3.new {w W : World} {p g o c : Nat} {ws l : List (BitVec 32)} (hr : RowQ W (p + 1) 207 1 (.slice (some ⟨g, o, none⟩) 64 c) 64 (Us ws)) (hM : Mx2 w W p l) (v : List (BitVec 32)) :
    Mx3 w ((W.alloc (.cells zero8.toArray 208)).setRow W.heap.size (Us v).toArray) p W.heap.size g o c ws l v := by
  have hg := hr.lt g rfl
  exact ⟨(hr.alloc _).rowFar (by simp [Value.ownBlock]; omega) _, (hM.alloc _).setRow hM.lt _, (Blk.new W 208 zero8).row _, hM.lt, by omega, hg.1⟩
theorem Mx3.drewN {w W : World} {p q g o c : Nat} {ws l v : List (BitVec 32)} (h : Mx3 w W p q g o c ws l v) (n : Nat) : Mx3 w (W.drewN n) p q g o c ws l v := ⟨h.1, h.2.1.drewN n, h.2.2⟩
theorem Mx3.put {w W : World} {p q g o c : Nat} {ws l v : List (BitVec 32)} (h : Mx3 w W p q g o c ws l v) (v' : List (BitVec 32)) : Mx3 w (W.setRow q (Us v').toArray) p q g o c ws l v' := by
  obtain ⟨h1, h2, h3, h4, h5, h6⟩ := h
  exact ⟨h1.rowFar (by simp [Value.ownBlock]; exact h5) _, h2.setRow h4 _, h3.row _, h4, h5, h6⟩
theorem Mx3.box {w W : World} {p q g o c : Nat} {ws l v : List (BitVec 32)} (h : Mx3 w W p q g o c ws l v) (k : Nat) (x : BitVec 32) : Mx3 w (W.setCell ⟨w.heap.size, k, none⟩ (.int .u32 (un x))) p q g o c ws (l.set k x) v := by
  obtain ⟨h1, h2, h3, h4, h5, h6⟩ := h
  have hp := h2.2.1
  exact ⟨h1.far (by simp [Value.ownBlock]; omega) _, h2.box k x, h3.far (by simp; omega) _, h4, h5, h6⟩
/-- What a round reads. -/
theorem Mx3.ten {w W : World} {p q g o c : Nat} {ws l : List (BitVec 32)} {r : St} (h : Mx3 w W p q g o c ws l r.list) (k : Nat) (hk : k < 64) (hl : ws.length = 64) (kk ww : BitVec 32) (h1 : gw ks k = kk) (h2 : gw ws k = ww) :
    W.cell? ⟨q, 0, none⟩ = some (.int .u32 (un r.a)) ∧ W.cell? ⟨q, 1, none⟩ = some (.int .u32 (un r.b)) ∧ W.cell? ⟨q, 2, none⟩ = some (.int .u32 (un r.c)) ∧ W.cell? ⟨q, 3, none⟩ = some (.int .u32 (un r.d)) ∧ W.cell? ⟨q, 4, none⟩ = some (.int .u32 (un r.e)) ∧ W.cell? ⟨q, 5, none⟩ = some (.int .u32 (un r.f)) ∧
      W.cell? ⟨q, 6, none⟩ = some (.int .u32 (un r.g)) ∧ W.cell? ⟨q, 7, none⟩ = some (.int .u32 (un r.h)) ∧ W.cell? ⟨p, k, none⟩ = some (.int .u32 (un kk)) ∧ W.cell? ⟨g, o + k, none⟩ = some (.int .u32 (un ww)) := by
  subst h1 h2
  exact ⟨h.2.2.1.cell 0 _ rfl, h.2.2.1.cell 1 _ rfl, h.2.2.1.cell 2 _ rfl, h.2.2.1.cell 3 _ rfl, h.2.2.1.cell 4 _ rfl, h.2.2.1.cell 5 _ rfl, h.2.2.1.cell 6 _ rfl, h.2.2.1.cell 7 _ rfl, h.2.1.2.2.cell k _ (Us_at ks k hk), (h.1.cellAt k hk _ (Us_at ws k (by omega))).1⟩
def Rw (w : World) (p : Nat) (bs : List UInt8) (l : List (BitVec 32)) (k : Nat) (v : Value) (wr : World) : Prop := RowQ wr (p + 1) 207 1 v k (Us (wl bs k)) ∧ Mx2 w wr p l
theorem run_bytei (W : World) (t : ByteArray) (bs : List UInt8) (hb : bs = t.data.toList) (j : Nat) (z : Int) (hz : z = (j : Int)) (h : j < t.size) : (Instr.index 9 (.string t) (.int .i64 z)).run Tryz.prog W = .ok (.int .u8 (ub (gb bs j))) W := by
  subst hz
  exact run_byte W t bs hb j h
set_option maxRecDepth 100000 in
set_option maxHeartbeats 8000000 in
theorem block_any (s : St) (t : ByteArray) (bs : List UInt8) (hb : bs = t.data.toList) (hl : bs.length = 64) (w : World) :
    Calls Tryz.prog 154 #[.agg (Us s.list).toArray, .string t] w fun e w' => e = .returned (.agg (Us (mix s bs).list).toArray) ∧ Below w.heap.size w w' := by
  have M0 := Lib.hid (Mx0.new w s.list)
  have z8 := z8_eq
  have z64 := z64_eq
  have ht : t.size = 64 := by rw [ba_size, ← hb]; exact hl
  have HBS := Lib.hid hb
  have HL := Lib.hid hl
  have HT := Lib.hid ht
  clear hb hl ht
  go_enter Tryz.func154, Tryz.ntmps154
  go_wp2_with fail
  refine (table_any _).mono ?_
  rintro e w2 ⟨rfl, hb2⟩
  have M2 := Lib.hid (M0.out.below hb2)
  clear hb2 M0
  have M3 := Lib.hid (Mx2.new M2.out)
  go_wp2_with (refine wpl_store rfl 243 (.tmp 5) _ rfl w2.heap.size (Us ks) rfl rfl 243 _ (Blk.new w2 243 zero64) (by rw [Tryz.size64]; rfl) (by simp [zero64]; rfl) (Us_one _) ?_)
  generalize (w2.alloc (.cells zero64.toArray 243)).setRow w2.heap.size (Us ks).toArray = W3 at M3 ⊢
  generalize w2.heap.size = p at M3 ⊢
  clear M2
  have T4 : (HT.out ▸ rfl : t.size = t.size) = rfl := rfl
  clear T4
  go_loopw [6, 7] (fun v i wr => ∃ k : Nat, k ≤ 64 ∧ i = .int .i64 k ∧ Rw w p bs s.list k v wr) (fun _ i _ => 64 - (intOf i).toNat)
  case atStart => exact ⟨0, by omega, rfl, RowQ.nil _ _ _ _, M3.out⟩
  case round =>
    obtain ⟨k, hk, rfl, hr, hM⟩ := hrel
    clear M3
    obtain ⟨A2, c2, rfl, hc2, hm2⟩ := hr.shape
    by_cases h64 : k < 64
    · have l1 : (k : Int) < 64 := by omega
      by_cases h16 : k < 16
      · have l2 : (k : Int) < 16 := by omega
        have hnx : part bs k 4 = next bs (wl bs k) k := by rw [next, if_pos h16]
        have hps := part_sum bs k
        rw [hnx] at hps
        have i0 := fun w => run_bytei w t bs HBS.out (4 * k) (4 * (k : Int)) (by omega) (by rw [HT.out]; omega)
        have i1 := fun w => run_bytei w t bs HBS.out (4 * k + 1) (4 * (k : Int) + 1) (by omega) (by rw [HT.out]; omega)
        have i2 := fun w => run_bytei w t bs HBS.out (4 * k + 2) (4 * (k : Int) + 2) (by omega) (by rw [HT.out]; omega)
        have i3 := fun w => run_bytei w t bs HBS.out (4 * k + 3) (4 * (k : Int) + 3) (by omega) (by rw [HT.out]; omega)
        generalize gb bs (4 * k) = b0 at hps i0
        generalize gb bs (4 * k + 1) = b1 at hps i1
        generalize gb bs (4 * k + 2) = b2 at hps i2
        generalize gb bs (4 * k + 3) = b3 at hps i3
        have PS := Lib.hid hps
        have q0 : IntKind.i64.wrap (4 * (k : Int)) = 4 * (k : Int) := by rw [IntKind.wrap_i64]; omega
        have q1 : IntKind.i64.wrap (4 * (k : Int) + 1) = 4 * (k : Int) + 1 := by rw [IntKind.wrap_i64]; omega
        have q2 : IntKind.i64.wrap (4 * (k : Int) + 2) = 4 * (k : Int) + 2 := by rw [IntKind.wrap_i64]; omega
        have q3 : IntKind.i64.wrap (4 * (k : Int) + 3) = 4 * (k : Int) + 3 := by rw [IntKind.wrap_i64]; omega
        have R2 := Lib.hid hr
        have B2 := Lib.hid hM
        clear hr hM hps hnx
        go_wp2
        refine wp_region_any (by kernel_rfl) ?_
        change wpAny _ _ _ _ _ _ _ (World.drew _)
        refine wpAny_take (i := 0) (v := ?_) rfl (by kernel_rfl) (by kernel_rfl) (by kernel_rfl) (fun _ _ _ h => h) (Or.inl ⟨by rfl, ?_⟩) ?_
        rotate_left
        · intro w; go_simp
          try rfl
        refine wpAny_head 1 30 (C := fun w' => ∃ n, w' = (World.drew wr).drewN n) ⟨0, rfl⟩ (by kernel_rfl) ?_ (by rfl)
        simp only [List.take_succ_cons, List.take_zero, List.drop_succ_cons, List.drop_zero]
        quiet_step (fail)
        repeat (go_big_quiet_step (fail))
        refine wpQuiet_nil ?_
        rintro _ ⟨nr, rfl⟩
        go_wp2_with (at_builtin; refine wpl_append rfl (.tmp 24) (.tmp 54) 245 rfl (p + 1) 207 (.int .u32 0) 1 4 Tryz.underlying245 Tryz.infoU rfl (by decide) (.slice A2 k c2) k (Us (wl bs k)) rfl (RowQ.alloc (show RowQ ((World.drew wr).drewN nr) (p + 1) 207 1 (.slice A2 k c2) k (Us (wl bs k)) from R2.out) _) _ 1 1 _ rfl (src_box1 _ _ _ rfl _ rfl) (by omega) (by omega) (by have := B2.out.lt; rw [hsz]; show p + 1 ≤ wr.heap.size + 1; omega) ?_; intro v3 w3 hr3 hg3 hat3; have R3 := Lib.hid hr3; have G3 := Lib.hid hg3; clear hr3 hg3 hat3)
        go_roundw
        case measure => show 64 - ((k : Int) + 1).toNat < 64 - (k : Int).toNat; omega
        case rel => exact ⟨k + 1, by omega, by go_num, by rw [wl, ← Us_snoc, ← PS.out, ← word_val]; exact R3.out, Mx2.grown ((B2.out.drewN _).alloc _) G3.out (fun k e => (R2.out.lt k e).1)⟩
      · have l2 : ¬ (k : Int) < 16 := by omega
        have l3 : (16 : Int) ≤ (k : Int) := by omega
        obtain ⟨g, o, hA, hpg, hgl⟩ := hr.blk (by omega)
        subst hA
        have cell : ∀ i, i < k → wr.cell? ⟨g, o + i, none⟩ = some (.int .u32 (un (gw (wl bs k) i))) := fun i hi => (hr.cellAt i hi _ (Us_at _ _ (by simp; exact hi))).1
        have e2 := cell (k - 2) (by omega)
        have e15 := cell (k - 15) (by omega)
        have e7 := cell (k - 7) (by omega)
        have e16 := cell (k - 16) (by omega)
        have hnx := next_val bs (wl bs k) k (by omega)
        generalize gw (wl bs k) (k - 2) = x2 at e2 hnx
        generalize gw (wl bs k) (k - 15) = x15 at e15 hnx
        generalize gw (wl bs k) (k - 7) = x7 at e7 hnx
        generalize gw (wl bs k) (k - 16) = x16 at e16 hnx
        have NX := Lib.hid hnx
        have R2 := Lib.hid hr
        have B2 := Lib.hid hM
        clear hr hM hnx cell
        go_wp2
        go_quiet (fail)
        go_wp2
        refine wp_region_any (by kernel_rfl) ?_
        change wpAny _ _ _ _ _ _ _ (World.drew (wr.drewN nq))
        have f7 : (World.drew (wr.drewN nq)).cell? ⟨g, o + (k - 7), none⟩ = some (.int .u32 (un x7)) := e7
        have f16 : (World.drew (wr.drewN nq)).cell? ⟨g, o + (k - 16), none⟩ = some (.int .u32 (un x16)) := e16
        have R7 : Hid (RowQ (World.drew (wr.drewN nq)) (p + 1) 207 1 (.slice (some ⟨g, o, none⟩) k c2) k (Us (wl bs k))) := Lib.hid R2.out
        have B7 := Lib.hid ((B2.out.drewN nq).drew)
        clear e2 e15 e7 e16 R2 B2
        generalize World.drew (wr.drewN nq) = w7 at f7 f16 R7 B7 ⊢
        refine wpAny_take (i := 0) (v := ?_) rfl (by kernel_rfl) (by kernel_rfl) (by kernel_rfl) (fun _ _ _ h => h) (Or.inl ⟨by rfl, ?_⟩) ?_
        rotate_left
        · intro w; go_simp
          try rfl
        refine wpAny_head 1 30 (C := fun w' => ∃ n, w' = w7.drewN n) ⟨0, rfl⟩ (by kernel_rfl) ?_ (by rfl)
        simp only [List.take_succ_cons, List.take_zero, List.drop_succ_cons, List.drop_zero]
        quiet_step (fail)
        repeat (go_big_quiet_step ((go_at_call 203; refine Calls.quiet_of (turn_any _ _ (by omega) (by omega) _))))
        refine wpQuiet_nil ?_
        rintro _ ⟨nr, rfl⟩
        go_wp2_with (at_builtin; refine wpl_append rfl (.tmp 66) (.tmp 96) 245 rfl (p + 1) 207 (.int .u32 0) 1 4 Tryz.underlying245 Tryz.infoU rfl (by decide) (.slice (some ⟨g, o, none⟩) k c2) k (Us (wl bs k)) rfl (RowQ.alloc (show RowQ (w7.drewN nr) (p + 1) 207 1 (.slice (some ⟨g, o, none⟩) k c2) k (Us (wl bs k)) from R7.out) _) _ 1 1 _ rfl (src_box1 _ _ _ rfl _ rfl) (by omega) (by omega) (by have := B7.out.lt; rw [hsz]; show p + 1 ≤ w7.heap.size + 1; omega) ?_; intro v3 w3 hr3 hg3 hat3; have R3 := Lib.hid hr3; have G3 := Lib.hid hg3; clear hr3 hg3 hat3)
        go_roundw
        case measure => show 64 - ((k : Int) + 1).toNat < 64 - (k : Int).toNat; omega
        case rel => exact ⟨k + 1, by omega, by go_num, by rw [wl, ← Us_snoc, NX.out]; exact R3.out, Mx2.grown ((B7.out.drewN _).alloc _) G3.out (fun k e => (R7.out.lt k e).1)⟩
    · have hk64 : k = 64 := by omega
      subst hk64
      obtain ⟨g, o, hA, hpg, hgl⟩ := hr.blk (by omega)
      subst hA
      have M6 := Lib.hid (Mx3.new hr hM s.list)
      have R5 := Lib.hid hM
      clear hr hM
      go_wp2_with (first
        | (refine wpl_load rfl 208 (.tmp 2) rfl w.heap.size rfl 208 _ R5.out.1.2.1 8 207 Tryz.underlying208 (by rw [Tryz.size8]; simp [St.list]) ?_)
        | (refine wpl_store rfl 208 (.tmp 10) _ rfl wr.heap.size (Us s.list) rfl rfl 208 _ (Blk.new wr 208 zero8) (by rw [Tryz.size8]; simp [St.list]) (by simp [zero8, St.list]) (Us_one _) ?_))
      generalize (wr.alloc (.cells zero8.toArray 208)).setRow wr.heap.size (Us s.list).toArray = W6 at M6 ⊢
      generalize wr.heap.size = q at M6 ⊢
      clear R5
      go_loopw [11] (fun i wr => ∃ k : Nat, k ≤ 64 ∧ i = .int .i64 k ∧ Mx3 w wr p q g o c2 (wl bs 64) s.list (rounds (wl bs 64) s k).list) (fun i _ => 64 - (intOf i).toNat)
      case atStart => exact ⟨0, by omega, rfl, M6.out⟩
      case round =>
        obtain ⟨k, hk, rfl, hT⟩ := hrel
        clear M6
        by_cases hlt : k < 64
        · have l1 : (k : Int) < 64 := by omega
          have HR : Hid (rounds (wl bs 64) s (k + 1) = round1 (rounds (wl bs 64) s k) (gw ks k) (gw (wl bs 64) k)) := rfl
          generalize rounds (wl bs 64) s k = r at hT HR
          have HR' := Lib.hid HR.out
          clear HR
          have HT := Lib.hid hT
          clear hT
          obtain ⟨kk, hkk⟩ : ∃ kk, gw ks k = kk := ⟨_, rfl⟩
          obtain ⟨ww, hww⟩ : ∃ ww, gw (wl bs 64) k = ww := ⟨_, rfl⟩
          rw [hkk, hww] at HR'
          have TEN := Lib.hid (fun (W1 : World) (h : Mx3 w W1 p q g o c2 (wl bs 64) s.list r.list) => h.ten k hlt (by simp) kk ww hkk hww)
          clear hkk hww
          obtain ⟨x0, x1, x2, x3, x4, x5, x6, x7, xk, xw⟩ := TEN.out _ HT.out
          go_wp2
          go_quiet (fail)
          clear x0 x1 x2 x3 x4 x5 x6 x7 xk xw
          have T7 := HT.out.drewN nq
          generalize wr.drewN nq = w7 at T7 ⊢
          clear HT
          obtain ⟨x0, x1, x2, x3, x4, x5, x6, x7, xk, xw⟩ := TEN.out _ T7
          have HT := Lib.hid T7
          clear T7
          go_wp2
          go_quiet ((go_at_call 203; refine Calls.quiet_of (turn_any _ _ (by omega) (by omega) _)))
          clear x0 x1 x2 x3 x4 x5 x6 x7 xk xw
          have T7 := HT.out.drewN nq
          generalize w7.drewN nq = w8 at T7 ⊢
          clear HT
          obtain ⟨x0, x1, x2, x3, x4, x5, x6, x7, xk, xw⟩ := TEN.out _ T7
          have HT := Lib.hid T7
          clear T7
          go_wp2
          go_quiet ((go_at_call 203; refine Calls.quiet_of (turn_any _ _ (by omega) (by omega) _)))
          have HT' := Lib.hid (HT.out.drewN)
          go_wp2_with (first
            | (refine wpl_build rfl 208 _ rfl (Us (round1 r kk ww).list) (by kernel_rfl) ?_)
            | (refine wpl_store rfl 208 (.tmp 10) _ rfl q (Us (round1 r kk ww).list) rfl rfl 208 _ (HT'.out _).2.2.1 (by rw [Tryz.size8]; simp [St.list]) (by simp [St.list]) (Us_one _) ?_))
          go_roundw
          case rel => exact ⟨k + 1, by omega, by go_num, by rw [HR'.out]; exact (HT'.out _).put _⟩
          case measure => simp [intOf]; omega
        · have e : k = 64 := by omega
          subst e
          have HM : Hid (mix s bs = s.add (rounds (wl bs 64) s 64)) := rfl
          generalize rounds (wl bs 64) s 64 = r at hT HM
          have HM' := Lib.hid HM.out
          have HT := Lib.hid hT
          clear hT HM
          go_wp2
          go_loopw [16] (fun i wr => ∃ k : Nat, k ≤ 8 ∧ i = .int .i64 k ∧ Mx3 w wr p q g o c2 (wl bs 64) (mixk s r k) r.list) (fun i _ => 8 - (intOf i).toNat)
          case atStart => exact ⟨0, by omega, rfl, by rw [mixk_zero]; exact HT.out⟩
          case round =>
            obtain ⟨k, hk, rfl, hT⟩ := hrel
            clear HT
            by_cases hlt : k < 8
            · have l1 : (k : Int) < 8 := by omega
              have c1 := hT.2.1.1.2.1.cell k _ (Us_at (mixk s r k) k (by rw [mixk_length s r k hk]; omega))
              rw [mixk_at s r k hlt] at c1
              have c2 := hT.2.2.1.cell k _ (Us_at r.list k (by simpa [St.list] using hlt))
              have c3 := hT.2.1.1.2.1.frozen k
              have HT := Lib.hid hT
              clear hT
              have HN := Lib.hid (mixk_set s r k hlt)
              generalize gw s.list k = x at c1 HN
              generalize gw r.list k = y at c2 HN
              go_wp2
              go_region
              go_wp2
              go_roundw
              case rel => exact ⟨k + 1, by omega, by go_num, by rw [← HN.out]; exact (HT.out.drewN _).box _ _⟩
              case measure => simp [intOf]; omega
            · have e : k = 8 := by omega
              subst e
              rw [mixk_all, ← HM'.out] at hT
              have HT := Lib.hid hT
              clear hT HM'
              obtain ⟨m, hm⟩ : ∃ m, m = mix s bs := ⟨_, rfl⟩
              rw [← hm] at HT
              have HM2 := Lib.hid hm
              clear hm
              go_wp2_with (first
                | (refine wpl_load rfl 208 (.tmp 2) rfl w.heap.size rfl 208 _ HT.out.2.1.1.2.1 8 207 Tryz.underlying208 (by rw [Tryz.size8]; simp [St.list]) ?_)
                | (refine wpl_store rfl 208 (.tmp 4) _ rfl (w.heap.size + 1) (Us m.list) rfl rfl 208 _ HT.out.2.1.1.2.2 (by rw [Tryz.size8]; simp [St.list]) (by simp [St.list]) (Us_one _) ?_))
              refine bodyPost_ret (v := .agg (Us m.list).toArray) (res_row rfl _ _ (w.heap.size + 1) 208 _ 8 207 rfl (HT.out.2.1.1.2.2.row _) Tryz.underlying208 (by rw [Tryz.size8]; simp [St.list])) rfl ⟨by rw [HM2.out], below_setRow' HT.out.2.1.1.1 (by omega) _⟩

attribute [local go_sem] un_shr24 un_shr16 un_shr8 ub_of_word un_mod256
section
variable {P : Program} {ops : Array Oper} {C : World → Prop}
/-- A whole array read, in the walk of what only reads. -/
theorem wpQuiet_load {Q : Act → Prop} {o : Oper} {rest : List Oper} {a : Act} (hgd : o.guard = none) (ty : TypeId) (x : Operand) (ho : o.op = .load ty x) (g : Nat) (hx : a.eval x = .pointer (some ⟨g, 0, none⟩)) (t : TypeId) (cs : List Value) (hb : ∀ w, C w → Blk w g t cs)
    (n : Nat) (e : TypeId) (hu : P.underlying ty = some (.array n e)) (hi : (P.info? ty).map (·.size) = some cs.length) (h : wpQuiet P ops C Q rest (a.put o.dst (.agg cs.toArray))) : wpQuiet P ops C Q (o :: rest) a := by
  unfold wpQuiet
  rw [if_pos (by simp [Region.wanted, hgd])]
  refine ⟨.agg cs.toArray, fun w hw => ?_, h⟩
  unfold Oper.quietAt execOp
  have hr : (Instr.loadAt ty (.pointer (some ⟨g, 0, none⟩))).run P w = .ok (.agg cs.toArray) w := by
    have := run_loadVar_row (P := P) w g t ty cs.toArray (0, 0) _ (hb w hw) hu rfl (by simpa using hi)
    simpa [Instr.loadAt, Instr.sureAddr] using this
  simp only [ho, hx]
  simp [hr, Oper.quietUpon]
end
/-- What Sum keeps: what is handed back, the eight words. -/
def Rk (W : World) (h : List (BitVec 32)) (wr : World) : Prop := Below W.heap.size W wr ∧ Blk wr W.heap.size 23 zero32 ∧ Blk wr (W.heap.size + 1) 208 (Us h)
theorem Rk.new (W : World) (h : List (BitVec 32)) : Rk W h (((W.alloc (.cells zero32.toArray 23)).alloc (.cells zero8.toArray 208)).setRow (W.heap.size + 1) (Us h).toArray) := by
  have n := Blk.new (W.alloc (.cells zero32.toArray 23)) 208 zero8
  rw [hsz] at n
  exact ⟨below_setRow' (((Below.refl _ _).alloc (Nat.le_refl _) _).alloc (by rw [hsz]; omega) _) (by omega) _, ((Blk.new W _ _).alloc _).rowFar (by omega) _, n.row _⟩
theorem Rk.alloc {W wr : World} {h : List (BitVec 32)} (k : Rk W h wr) (o : Obj) : Rk W h (wr.alloc o) := ⟨k.1.alloc k.1.size o, k.2.1.alloc o, k.2.2.alloc o⟩
theorem Rk.drewN {W wr : World} {h : List (BitVec 32)} (k : Rk W h wr) (n : Nat) : Rk W h (wr.drewN n) := ⟨below_drewN k.1 n, k.2.1, k.2.2⟩
theorem Rk.below {W wr w1 : World} {h : List (BitVec 32)} (k : Rk W h wr) (hb : Below wr.heap.size wr w1) : Rk W h w1 := ⟨k.1.trans (hb.mono k.1.size), k.2.1.below hb, k.2.2.below hb⟩
theorem Rk.put {W wr : World} {h : List (BitVec 32)} (k : Rk W h wr) (h' : List (BitVec 32)) : Rk W h' (wr.setRow (W.heap.size + 1) (Us h').toArray) := ⟨below_setRow' k.1 (by omega) _, k.2.1.rowFar (by omega) _, k.2.2.row _⟩
def Wide (n : Nat) (bs : List UInt8) (j : Nat) (v : Value) : Prop := ∃ u : ByteArray, v = .string u ∧ u.data.toList = bs ++ 128 :: List.replicate j 0 ∧ u.size = n + 1 + j
theorem outB_at (S : St) (k : Nat) (h : k < 32) : un (gw S.list (k / 4)) / 2 ^ (24 - 8 * (k % 4)) % 256 = ub (gb (outB S) k) := by
  have e : ∀ x : BitVec 32, un x / 2 ^ 0 % 256 = ub (loB x) := fun x => by rw [← un_mod256]; simp
  have hk : k = 4 * (k / 4) + k % 4 := by omega
  generalize k / 4 = i at hk ⊢
  generalize hj : k % 4 = j at hk ⊢
  have hj4 : j < 4 := by omega
  subst hk
  have hi : i < 8 := by omega
  rcases j with _ | _ | _ | _ | j
  · rw [show (24 - 8 * 0) = 24 from rfl, un_shr, un_mod256]
    rcases i with _ | _ | _ | _ | _ | _ | _ | _ | i <;> first | rfl | omega
  · rw [show (24 - 8 * (0 + 1)) = 16 from rfl, un_shr, un_mod256]
    rcases i with _ | _ | _ | _ | _ | _ | _ | _ | i <;> first | rfl | omega
  · rw [show (24 - 8 * (0 + 1 + 1)) = 8 from rfl, un_shr, un_mod256]
    rcases i with _ | _ | _ | _ | _ | _ | _ | _ | i <;> first | rfl | omega
  · rw [show (24 - 8 * (0 + 1 + 1 + 1)) = 0 from rfl, e]
    rcases i with _ | _ | _ | _ | _ | _ | _ | _ | i <;> first | rfl | omega
  · omega
set_option maxRecDepth 100000 in
set_option maxHeartbeats 8000000 in
theorem refSum_any (W : World) (s : ByteArray) (bs : List UInt8) (hb : bs = s.data.toList) (n : Nat) (hn : s.size = n) (h1 : n ≤ 1048576) :
    Calls Tryz.prog 104 #[.string s] W fun e W' => e = .returned (.agg (Bs (sha256 bs)).toArray) ∧ Below W.heap.size W W' := by
  have hl : bs.length = n := by rw [hb, ← ba_size]; exact hn
  have K0 := Lib.hid (Rk.new W st0.list)
  have N0 := Lib.hid (Blk.new (W.alloc (.cells zero32.toArray 23)) 208 zero8)
  rw [hsz] at N0
  have z32 := z32_eq
  have z8 := z8_eq
  have HB := Lib.hid hb
  have HL := Lib.hid hl
  have h2 : (s.size : Int) ≤ 1048576 := by omega
  have HN := Lib.hid hn
  clear hb hl
  go_enter Tryz.func104, Tryz.ntmps104
  go_wp2_with (first
    | (refine wpl_build rfl 208 _ rfl (Us st0.list) (by kernel_rfl) ?_)
    | (refine wpl_store rfl 208 (.tmp 3) _ rfl (W.heap.size + 1) (Us st0.list) rfl rfl 208 _ N0.out (by rw [Tryz.size8]; rfl) rfl (Us_one _) ?_; generalize ((W.alloc (.cells zero32.toArray 23)).alloc (.cells zero8.toArray 208)).setRow (W.heap.size + 1) (Us st0.list).toArray = W1 at K0 ⊢; clear N0))
  go_loopg [4] (padz (n + 1)) (fun k v wr => ∃ j, Wide n bs j v ∧ j + k = padz (n + 1) ∧ Rk W st0.list wr)
  case atStart => exact ⟨0, ⟨_, rfl, by rw [ba_append, ← HB.out]; rfl, by rw [ba_size, ba_append, ← HB.out, List.length_append, HL.out]; rfl⟩, by omega, K0.out⟩
  case round =>
    obtain ⟨j, ⟨u, rfl, hu, huz⟩, hj, hK⟩ := hrel
    clear K0
    have hp := padz_lt (n + 1)
    have hm := padz_mod (n + 1)
    have u1 : (u.size : Int) ≤ 1048700 := by omega
    have HU := Lib.hid hu
    have HK := Lib.hid hK
    have HUZ := Lib.hid huz
    clear hu hK
    by_cases hd : (u.size : Int) % 64 = 56
    · have hd2 : ((u.size : Int) % 64 != 56) = false := by simp [hd]
      have hjz : j = padz (n + 1) := padz_of_mod (by omega) (by omega)
      subst hjz
      clear hd hp hm huz
      obtain ⟨b1, hb1⟩ : ∃ b, b = bs ++ 128 :: List.replicate (padz (n + 1)) 0 := ⟨_, rfl⟩
      have b1l : b1.length = n + 1 + padz (n + 1) := by rw [hb1, List.length_append, List.length_cons, List.length_replicate, HL.out]; omega
      have U1 : Hid (u.data.toList = b1) := by rw [hb1]; exact HU.out
      have HB1 := Lib.hid hb1
      have pl := padz_lt (n + 1)
      have pm := padz_mod (n + 1)
      clear hb1 HU HUZ hj
      go_wp2
      go_loopw [4, 5] (fun v i wr => ∃ k : Nat, ∃ u : ByteArray, k ≤ 8 ∧ i = .int .i64 (7 - (k : Int)) ∧ v = .string u ∧ u.data.toList = b1 ++ (len8 n).take k ∧ Rk W st0.list wr) (fun _ i _ => (intOf i + 1).toNat)
      case atStart => exact ⟨0, u, by omega, rfl, rfl, by simpa using U1.out, HK.out⟩
      case round =>
        obtain ⟨k, u, hk, rfl, rfl, hu, hK⟩ := hrel
        clear HK U1 hd2 u1
        have uz : u.size = b1.length + k := by rw [ba_size, hu, List.length_append, List.length_take, len8_length]; omega
        have u1 : (u.size : Int) ≤ 1048800 := by omega
        have HU := Lib.hid hu
        have HK := Lib.hid hK
        clear hu hK
        by_cases h8 : k = 8
        · subst h8
          obtain ⟨b, hb⟩ : ∃ b, b = b1 ++ len8 n := ⟨_, rfl⟩
          have U2 : Hid (b = u.data.toList) := by rw [hb, HU.out]; rfl
          obtain ⟨m, hm⟩ : ∃ m, b.length = 64 * m := ⟨b.length / 64, by rw [hb, List.length_append, len8_length]; omega⟩
          have hbz : u.size = 64 * m := by rw [ba_size, ← U2.out, hm]
          have hsha : sha256 bs = outB (absorb st0 b).1 := by
            unfold sha256 digest tailB
            rw [hb, HB1.out, HL.out, List.append_assoc]
          have HS := Lib.hid hsha
          have HM := Lib.hid hm
          clear hb hsha hm HB1 HU uz b1l pl pm
          have m1 : (u.size : Int) = 64 * (m : Int) := by omega
          have m2 : m ≤ 20000 := by omega
          go_wp2
          go_loopw [6] (fun i wr => ∃ k : Nat, ∃ S : St, k ≤ m ∧ i = .int .i64 (64 * (k : Int)) ∧ (absorb st0 b).1 = (absorb S (b.drop (64 * k))).1 ∧ Rk W S.list wr) (fun i _ => 64 * m - (intOf i).toNat)
          case atStart => exact ⟨0, st0, by omega, rfl, by simp, HK.out⟩
          case round =>
            obtain ⟨k, S, hk, rfl, hab, hK⟩ := hrel
            clear HK
            have HK := Lib.hid hK
            clear hK
            by_cases hkm : k < m
            · have k1 : 64 * (k : Int) < (u.size : Int) := by omega
              have k2 : 64 * (k : Int) + 64 ≤ (u.size : Int) := by omega
              have hlg : 64 ≤ (b.drop (64 * k)).length := by rw [List.length_drop, HM.out]; omega
              rw [absorb_long S _ hlg, List.drop_drop, show 64 * k + 64 = 64 * (k + 1) by omega] at hab
              obtain ⟨c, hc⟩ : ∃ c, c = (b.drop (64 * k)).take 64 := ⟨_, rfl⟩
              rw [← hc] at hab
              have hcl : c.length = 64 := by rw [hc, List.length_take]; omega
              have hct : c = (u.extract (64 * k) (64 * k + 64)).data.toList := by rw [hc, U2.out, ba_extract, List.drop_take, show 64 * k + 64 - 64 * k = 64 by omega]
              have HC := Lib.hid hct
              have HCL := Lib.hid hcl
              have HAB := Lib.hid hab
              clear hc hcl hct hab hlg
              go_wp2
              refine wp_region_any (by kernel_rfl) ?_
              change wpAny _ _ _ _ _ _ _ (World.drew _)
              refine wpAny_head 0 6 (C := fun w' => ∃ n, w' = (World.drew wr).drewN n) ⟨0, rfl⟩ (by kernel_rfl) ?_ (by rfl)
              simp only [List.take_succ_cons, List.take_zero, List.drop_succ_cons, List.drop_zero]
              refine wpQuiet_load rfl 208 (.tmp 3) rfl (W.heap.size + 1) rfl 208 (Us S.list) (fun w ⟨n, hw⟩ => by subst hw; exact HK.out.2.2) 8 207 Tryz.underlying208 (by rw [Tryz.size8]; simp [St.list]) ?_
              quiet_step (fail)
              repeat (go_big_quiet_step (fail))
              refine wpQuiet_nil ?_
              rintro _ ⟨nr, rfl⟩
              go_wp2_with (first
                | (go_at_call 154; refine (block_any S _ c HC.out HCL.out _).mono ?_; rintro e w5 ⟨rfl, hb5⟩; have K5 : Hid (Rk W S.list w5) := Lib.hid ((HK.out.drewN (1 + nr)).below hb5); clear hb5)
                | (refine wpl_store rfl 208 (.tmp 3) _ rfl (W.heap.size + 1) (Us (mix S c).list) rfl rfl 208 _ K5.out.2.2 (by rw [Tryz.size8]; simp [St.list]) (by simp [St.list]) (Us_one _) ?_))
              go_roundw
              case measure => simp [intOf]; omega
              case rel => ((repeat apply Exists.intro); exact ⟨⟨k + 1, mix S c, by omega, by go_num, HAB.out, K5.out.put _⟩, rfl⟩)
            · have hkm' : k = m := by omega
              subst hkm'
              rw [List.drop_of_length_le (by rw [HM.out]; omega), absorb_short S [] (by simp)] at hab
              have HAB := Lib.hid hab
              clear hab
              have hD : W.heap.size + 1 < wr.heap.size := HK.out.2.2.lt
              have B8 : Hid (Blk (wr.alloc (.cells zero32.toArray 23)) wr.heap.size 23 (Bs ((outB S).take 0 ++ List.replicate (32 - 0) 0))) := Lib.hid (Blk.new wr _ _)
              have K8 := Lib.hid (HK.out.alloc (.cells zero32.toArray 23))
              clear HK
              go_wp2
              generalize wr.alloc (.cells zero32.toArray 23) = W8 at B8 K8 ⊢
              generalize wr.heap.size = D at B8 hD ⊢
              go_loopw [8] (fun i wr => ∃ k : Nat, k ≤ 32 ∧ i = .int .i64 k ∧ Rk W S.list wr ∧ Blk wr D 23 (Bs ((outB S).take k ++ List.replicate (32 - k) 0))) (fun i _ => 32 - (intOf i).toNat)
              case atStart => exact ⟨0, by omega, rfl, K8.out, B8.out⟩
              case round =>
                obtain ⟨k, hk, rfl, hK, hD8⟩ := hrel
                clear B8 K8
                by_cases h32 : k < 32
                · have l1 : (k : Int) < 32 := by omega
                  have x1 := hK.2.2.cell (k / 4) _ (Us_at S.list (k / 4) (by simp [St.list]; omega))
                  have x2 := hD8.cell k (.int .u8 0) (by
                    have e : (Bs ((outB S).take k ++ List.replicate (32 - k) 0))[k]? = some (.int .u8 (ub (gb ((outB S).take k ++ List.replicate (32 - k) 0) k))) := Bs_at _ _ (by simp; omega)
                    rw [e]
                    have : gb ((outB S).take k ++ List.replicate (32 - k) 0) k = 0 := by
                      unfold gb
                      rw [List.getD_eq_getElem?_getD, List.getElem?_append_right (by rw [List.length_take, outB_length]; omega), show k - ((outB S).take k).length = 0 from by (rw [List.length_take, outB_length]; omega), show 32 - k = (32 - (k + 1)) + 1 by omega, List.replicate_succ]
                      rfl
                    rw [this]
                    rfl)
                  have x3 := hD8.frozen k
                  have hv := outB_at S k h32
                  generalize gw S.list (k / 4) = y at x1 hv
                  have HV := Lib.hid hv
                  have HK := Lib.hid hK
                  have H8 := Lib.hid hD8
                  obtain ⟨i, hi⟩ : ∃ i, i = k / 4 := ⟨_, rfl⟩
                  obtain ⟨j, hj⟩ : ∃ j, j = k % 4 := ⟨_, rfl⟩
                  rw [← hi] at x1
                  have q1 : ((k : Int).tdiv 4) = (i : Int) := by rw [Int.tdiv_eq_ediv_of_nonneg (by omega)]; omega
                  have q2 : ((k : Int) / 4) = (i : Int) := by omega
                  have q3 : ((k : Int).tmod 4) = (j : Int) := by rw [Int.tmod_eq_emod_of_nonneg (by omega)]; omega
                  have q4 : ((k : Int) % 4) = (j : Int) := by omega
                  have i8 : (i : Int) < 8 := by omega
                  have j4 : (j : Int) < 4 := by omega
                  have HJ := Lib.hid hj
                  clear hi hj
                  clear hv hK hD8
                  go_wp2
                  go_roundw
                  case measure => simp [intOf]; omega
                  case rel =>
                    have e : un y / 2 ^ (24 - 8 * j) % 256 = ub (gb (outB S) k) := by rw [HJ.out]; exact HV.out
                    rw [e]
                    refine ⟨k + 1, by omega, by go_num, ⟨HK.out.1.setCell (by show W.heap.size ≤ D; omega) _, HK.out.2.1.far (by show _ ≠ D; omega) _, HK.out.2.2.far (by show _ ≠ D; omega) _⟩, ?_⟩
                    have h9 := H8.out.setCell k (.int .u8 (ub (gb (outB S) k)))
                    rw [Bs_set] at h9
                    have e2 : ((outB S).take k ++ List.replicate (32 - k) (0 : UInt8)).set k (gb (outB S) k) = (outB S).take (k + 1) ++ List.replicate (32 - (k + 1)) 0 := by
                      rw [show 32 - k = (32 - (k + 1)) + 1 by omega, List.replicate_succ, List.set_append_right _ _ (by rw [List.length_take, outB_length]; omega), show k - ((outB S).take k).length = 0 from by (rw [List.length_take, outB_length]; omega), List.set_cons_zero, List.take_succ_eq_append_getElem (by rw [outB_length]; exact h32), List.append_assoc]
                      simp [gb, List.getD_eq_getElem?_getD, List.getElem?_eq_getElem (show k < (outB S).length by rw [outB_length]; exact h32)]
                    rwa [e2] at h9
                · have hk' : k = 32 := by omega
                  subst hk'
                  have h9 : Blk wr D 23 (Bs (outB S)) := hD8
                  have H9 := Lib.hid h9
                  have HK := Lib.hid hK
                  clear h9 hD8 hK
                  go_wp2_with (first
                    | (refine wpl_load rfl 23 (.tmp 7) rfl D rfl 23 (Bs (outB S)) H9.out 32 5 Tryz.underlying23 (by rw [Tryz.size32]; simp) ?_)
                    | (refine wpl_store rfl 23 (.tmp 2) _ rfl W.heap.size (Bs (outB S)) rfl rfl 23 _ HK.out.2.1 (by rw [Tryz.size32]; simp) (by simp [zero32]) (Bs_one _) ?_))
                  refine bodyPost_ret (v := .agg (Bs (outB S)).toArray) (res_row rfl _ _ W.heap.size 23 _ 32 5 rfl (HK.out.2.1.row _) Tryz.underlying23 (by rw [Tryz.size32]; simp)) rfl ⟨?_, below_setRow' HK.out.1 (Nat.le_refl _) _⟩
                  rw [HS.out, HAB.out]
        · have hk' : k < 8 := by omega
          obtain ⟨x, hx⟩ : ∃ x, x = lenB n (56 - 8 * k) := ⟨_, rfl⟩
          have HX := Lib.hid hx
          have HK8 := Lib.hid hk'
          have k7 : (0 : Int) ≤ 7 - (k : Int) := by omega
          have hX : (n : Int) * 8 / 2 ^ (8 * (7 - k)) % 256 = ub x := by
            rw [hx, show 8 * (7 - k) = 56 - 8 * k by omega]
            unfold lenB ub
            rw [show (n : Int) * 8 = ((8 * n : Nat) : Int) by omega, show ((2 : Int) ^ (56 - 8 * k)) = ((2 ^ (56 - 8 * k) : Nat) : Int) by simp, ← Int.natCast_ediv]
            simp
          clear hx hk' h8
          go_wp2_with (refine wpl_conv rfl 53 9 _ rfl (.string ⟨#[x]⟩) (run_str _ _ 1 1 [x] (src_box wr (ub x) _ rfl)) ?_)
          go_roundw
          case measure => simp [intOf]; omega
          case rel => exact ⟨k + 1, u ++ ⟨#[x]⟩, by have := HK8.out; omega, by go_num, rfl, by rw [ba_append, HU.out, take_len8 n k HK8.out, HX.out, List.append_assoc], HK.out.alloc _⟩
    · have hd2 : ((u.size : Int) % 64 != 56) = true := by simp [hd]
      have hlt : j < padz (n + 1) := by
        rcases Nat.lt_or_ge j (padz (n + 1)) with h | h
        · exact h
        · exfalso
          have e : j = padz (n + 1) := by omega
          rw [← e] at hm
          omega
      clear hd hp hm huz
      go_wp2
      go_roundg (padz (n + 1) - (j + 1))
      case measure => omega
      case rel => exact ⟨j + 1, ⟨_, rfl, by rw [ba_append, HU.out, List.replicate_succ', List.append_assoc]; rfl, by rw [ba_size, ba_append, List.length_append, ← ba_size, HUZ.out]; rfl⟩, by omega, HK.out⟩
end Go.Proofs.YtpbnigpdpkfpaaaGreatDoor
namespace Go.Proofs.YtpbnigpdpkfpaaaGreatDoor
section
variable {md : Region.Mode}
def chkL (md : Region.Mode) (ops : Array Oper) : List Oper → Nat → Bool
  | [], _ => true
  | o :: rest, k => (o.after.toList.all fun e => !Region.binds md e || decide (e.on < k)) && (rest.all fun oj => (oj.after.toList.any fun e => Region.binds md e && e.on == k) || o.apart ops oj) && chkL md ops rest (k + 1)
theorem lexFrom_of_chk {ops : Array Oper} : ∀ (rest : List Oper) (k : Nat) (listed : Array Bool), (∀ j, rest[j]? = ops[k + j]?) → (∀ j, j < ops.size → listed[j]? = some (decide (j < k))) → chkL md ops rest k = true → Region.lexFrom md ops rest.length k listed = true := by
  intro rest
  induction rest with
  | nil =>
    intro k listed hr hl _
    have hk : ops.size ≤ k := by
      have := (hr 0).symm
      simpa using this
    show (Region.ready md ops listed).isEmpty = true
    unfold Region.ready
    rw [List.isEmpty_iff, List.filter_eq_nil_iff]
    intro i hi
    have hi' := List.mem_range.1 hi
    have h1 : listed.getD i true = true := by
      rw [Array.getD_eq_getD_getElem?, hl i hi', Option.getD_some]
      exact decide_eq_true (by omega)
    rw [h1]
    simp
  | cons o rest ih =>
    intro k listed hr hl hc
    have h0 : ops[k]? = some o := by simpa using (hr 0).symm
    have hk : k < ops.size := (Array.getElem?_eq_some_iff.1 h0).1
    simp only [chkL, Bool.and_eq_true] at hc
    obtain ⟨⟨ha, hf⟩, hc'⟩ := hc
    have hg : ∀ (j : Nat) (d : Bool), j < ops.size → listed.getD j d = decide (j < k) := fun j d hj => by
      rw [Array.getD_eq_getD_getElem?, hl j hj, Option.getD_some]
    show ((Region.ready md ops listed).contains k && Region.free md ops listed k && Region.lexFrom md ops rest.length (k + 1) (listed.setIfInBounds k true)) = true
    rw [Bool.and_eq_true, Bool.and_eq_true]
    refine ⟨⟨?_, ?_⟩, ih (k + 1) _ (fun j => ?_) (fun j hj => ?_) hc'⟩
    · rw [List.contains_iff_mem]
      unfold Region.ready
      refine List.mem_filter.2 ⟨List.mem_range.2 hk, ?_⟩
      rw [hg k true hk, h0]
      simp only [Nat.lt_irrefl, decide_false, Bool.not_false, Option.map_some, Option.getD_some, Bool.true_and]
      rw [Array.all_eq_true_iff_forall_mem]
      intro e he
      have h1 := List.all_eq_true.1 ha e (Array.mem_toList_iff.2 he)
      rw [Bool.or_eq_true] at h1 ⊢
      rcases h1 with h1 | h1
      · exact .inl h1
      · have h2 := of_decide_eq_true h1
        exact .inr (by rw [hg e.on false (by omega)]; exact h1)
    · unfold Region.free
      rw [h0]
      show ((List.range ops.size).all _) = true
      rw [List.all_eq_true]
      intro j hj
      have hj' := List.mem_range.1 hj
      rw [hg j true hj']
      by_cases h1 : j = k
      · simp [h1]
      · by_cases h2 : j < k
        · simp [h2]
        · have h3 : ops[j]? = rest[j - (k + 1)]? := by
            have := hr (j - (k + 1) + 1)
            rw [List.getElem?_cons_succ] at this
            rw [this]
            congr 1
            omega
          rw [h3]
          cases h4 : rest[j - (k + 1)]? with
          | none => simp
          | some oj =>
            have h5 := List.all_eq_true.1 hf oj (List.mem_of_getElem? h4)
            rw [Bool.or_eq_true]
            refine .inr ?_
            show (oj.after.any _ || o.apart ops oj) = true
            rw [Bool.or_eq_true] at h5 ⊢
            rcases h5 with h5 | h5
            · refine .inl ?_
              obtain ⟨e, he, h6⟩ := List.any_eq_true.1 h5
              exact Array.any_eq_true'.2 ⟨e, Array.mem_toList_iff.1 he, h6⟩
            · exact .inr h5
    · have := hr (j + 1)
      rw [List.getElem?_cons_succ] at this
      rw [this]
      congr 1
      omega
    · rw [Array.getElem?_setIfInBounds]
      by_cases h1 : k = j
      · subst h1
        have h2 : k < listed.size := by
          have := hl k hk
          exact (Array.getElem?_eq_some_iff.1 this).1
        rw [if_pos rfl, if_pos h2]
        exact congrArg some (decide_eq_true (by omega)).symm
      · rw [if_neg h1, hl j hj]
        exact congrArg some (decide_eq_decide.2 (by omega))
theorem lexB_of_chk {l : List Oper} (hs : Region.noSelect l.toArray = true) (h : chkL md l.toArray l 0 = true) : Region.lexB md l.toArray = true := by
  unfold Region.lexB
  rw [hs, Bool.true_and]
  refine lexFrom_of_chk l 0 _ (fun j => by simp) (fun j hj => ?_) h
  rw [Array.getElem?_replicate, if_pos hj]
  simp
end
end Go.Proofs.YtpbnigpdpkfpaaaGreatDoor
namespace Go.Proofs.YtpbnigpdpkfpaaaGreatDoor
section
variable {P : Program} {ops : Array Oper} {md : Region.Mode}
/-- An operation that hands back a value, and never enters a function. -/
def plainOp : Op → Bool
  | .move _ | .assign _ | .binOp .. | .convert .. | .index .. => true
  | _ => false
def takesB (md : Region.Mode) (ops : Array Oper) : Nat → Nat → Array Bool → Bool
  | 0, _, _ => true
  | n + 1, k, listed => Region.free md ops listed k && (Region.ready md ops listed).contains k && (match ops[k]? with | some o => plainOp o.op | none => false) && takesB md ops n (k + 1) (listed.setIfInBounds k true)
def tookL : Nat → Nat → Array Bool → Array Bool
  | 0, _, l => l
  | n + 1, k, l => tookL n (k + 1) (l.setIfInBounds k true)
end
end Go.Proofs.YtpbnigpdpkfpaaaGreatDoor
