/- oid.Of: the name of an object. -/
import Derived.Test.YtcomibocajjhoaaGreatDoorP4x
import Derived.Test.YtcomibocajjhoaaGreatDoorHt
namespace Go.Proofs.YtcomibocajjhoaaGreatDoor
open Go.RowKit
@[simp] theorem sha256_length (bs : List UInt8) : (sha256 bs).length = 32 := by
  unfold sha256
  simp
/-- What is hashed. -/
def ofL (k : Int) (l : List UInt8) : List UInt8 := (wordB k).data.toList ++ [32] ++ Lib.decDigits l.length ++ [0] ++ l
theorem wordB_size (k : Int) : (wordB k).size ≤ 6 := by
  unfold wordB
  split
  · exact Nat.le_of_ble_eq_true rfl
  · split
    · exact Nat.le_of_ble_eq_true rfl
    · split
      · exact Nat.le_of_ble_eq_true rfl
      · exact Nat.le_of_ble_eq_true rfl
theorem dec_len' (k : Nat) : ∀ n, n < 10 ^ (k + 1) → (Lib.decDigits n).length ≤ k + 1 := by
  induction k with
  | zero => intro n h; rw [Lib.decDigits, dif_pos (by simpa using h)]; simp
  | succ k ih =>
    intro n h
    rw [Lib.decDigits]
    split
    · simp
    · rw [List.length_append]
      have := ih (n / 10) (by rw [Nat.pow_succ] at h; omega)
      simp; omega
theorem dec_len (n : Nat) (h : n ≤ 140737488355328) : (Lib.decDigits n).length ≤ 20 := by
  have := dec_len' 19 n (by omega)
  omega
theorem of_blk {W w1 w2 w3 : World} (h1 : Below (W.heap.size + 1) (W.alloc (.cells zero32.toArray 30)) w1) (h2 : Below w1.heap.size w1 w2) (h3 : Below w2.heap.size w2 w3) :
    Blk w3 W.heap.size 30 zero32 ∧ Below W.heap.size W w3 ∧ W.heap.size + 1 ≤ w3.heap.size := by
  have s1 := h1.size
  have s2 := h2.size
  have s3 := h3.size
  rw [hsz] at s1
  have b0 := Blk.new W 30 zero32
  have b1 : Blk w1 W.heap.size 30 zero32 := b0.belowB h1 (by omega)
  refine ⟨(b1.below h2).below h3, ?_, by omega⟩
  have l0 : Below W.heap.size W (W.alloc (.cells zero32.toArray 30)) := (Below.refl _ _).alloc (Nat.le_refl _) _
  exact ((l0.trans (h1.mono (by omega))).trans (h2.mono (by omega))).trans (h3.mono (by omega))
set_option maxRecDepth 100000 in
set_option maxHeartbeats 1000000 in
theorem of_any (W : World) (k : Int) (s : ByteArray) (hs : s.size ≤ 1099511627776) (hG : Gl W) : Calls Tryz.prog 58 #[.int .i64 k, .string s] W fun e W' => e = .returned (.agg (Bs (sha256 (ofL k s.data.toList))).toArray) ∧ Below W.heap.size W W' := by
  have z32 := z32_eq
  have hz := ba_size s
  obtain ⟨d, hd⟩ : ∃ d : ByteArray, d = ⟨(Lib.decDigits s.size).toArray⟩ := ⟨_, rfl⟩
  have hd20 : d.size ≤ 20 := by rw [hd]; exact dec_len _ (by omega)
  obtain ⟨q, hq⟩ : ∃ q, q = wordB k := ⟨_, rfl⟩
  have hq6 : q.size ≤ 6 := by rw [hq]; exact wordB_size k
  have hG0 : Gl (W.alloc (.cells zero32.toArray 30)) := hG.below ((Below.refl _ _).alloc (Nat.le_refl _) _)
  have HG := Lib.hid hG0
  have hw := word_any (W.alloc (.cells zero32.toArray 30)) k
  rw [← hq] at hw
  have hi := itoa_any (W.alloc (.cells zero32.toArray 30)) s.size (by omega) hG0
  rw [← hd] at hi
  have HW := Lib.hid hw
  have HI := Lib.hid hi
  have HD := Lib.hid hd
  have HQ := Lib.hid hq
  have HZ := Lib.hid hz
  clear hG hG0 hw hi hd hq hz
  obtain ⟨t, ht⟩ : ∃ t : ByteArray, q ++ { data := #[32] } ++ d ++ { data := #[0] } ++ s = t := ⟨_, rfl⟩
  have ht2 : t.data.toList = ofL k s.data.toList := by
    rw [← ht]; simp only [ba_append]; rw [HD.out, HQ.out, HZ.out]; rfl
  have hts : t.size ≤ 140737488355328 := by
    rw [← ht]; simp only [ByteArray.size_append]
    have e1 : (ByteArray.mk #[32]).size = 1 := rfl
    have e2 : (ByteArray.mk #[0]).size = 1 := rfl
    omega
  have T := Lib.hid ht
  have T2 := Lib.hid ht2
  have HH := hsz W (.cells zero32.toArray 30)
  have HH := Lib.hid HH
  clear ht ht2 z32
  go_enter Tryz.func58, Tryz.ntmps58
  go_wp2_with (first
    | (go_at_call 79; refine HW.out.mono ?_; rintro e w' ⟨rfl, rfl⟩)
    | (go_at_call 80; refine HI.out.mono ?_; rintro e w1 ⟨rfl, hb⟩; rw [HH.out] at hb; have B1 := Lib.hid hb; obtain ⟨c2, w2, hcv, hsrc, hbw, hsz2, hc2⟩ := conv_bytes w1 t; have C2 := Lib.hid hcv; have S2 := Lib.hid hsrc; have B2 := Lib.hid hbw; have N2 := Lib.hid hsz2; clear hb hcv hsrc hbw hsz2 hc2)
    | (refine wpl_convw rfl 9 24 _ rfl _ (congrArg Value.string T.out) _ w2 C2.out ?_)
    | (go_at_call 78; refine (shaSum_any w2 _ t.size c2 t.data.toList S2.out (fun ad e => by obtain rfl := Option.some.inj e; show w1.heap.size < w2.heap.size; have := N2.out; omega) hts).mono ?_; rintro e w3 ⟨rfl, hb⟩; have B3 := Lib.hid hb; clear hb)
    | (refine wpl_store rfl 30 (.tmp 4) _ rfl W.heap.size (Bs (sha256 t.data.toList)) rfl rfl 30 zero32 (of_blk B1.out B2.out B3.out).1 (by rw [Tryz.sizeId]; simp) (by simp [zero32]) (Bs_one _) ?_))
  obtain ⟨hb1, hb2, hb3⟩ := of_blk B1.out B2.out B3.out
  refine bodyPost_ret (v := .agg (Bs (sha256 t.data.toList)).toArray) (res_row rfl _ _ W.heap.size 30 _ 32 5 rfl (hb1.row _) Tryz.underlying30 (by rw [Tryz.sizeId]; simp)) rfl ⟨?_, below_setRow' hb2 (Nat.le_refl _) _⟩
  rw [T2.out]
end Go.Proofs.YtcomibocajjhoaaGreatDoor
