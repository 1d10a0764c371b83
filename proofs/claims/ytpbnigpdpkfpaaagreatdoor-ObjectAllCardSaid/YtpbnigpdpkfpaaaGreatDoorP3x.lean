/- line: four digits; Put, Flush, Delim. line: which lengths may be; which digits begin one. line: the number that a wire begins with; Get. line.Get. line.All. Package-level variables, as they are laid; what keeps them. line, in plain terms: what was put is got; lines up to a flush; what is cut off. line.Get as the document's answer has it, in plain terms. Names as digits, and back, in plain terms. when: Bits, Put. when.digits: is a text some digits? Floats: what the program's tests say, by a word's rung. The document's floats: May, Norm, Less, Bits tell what the program's tell. -/
import Derived.Test.YtpbnigpdpkfpaaaGreatDoorP2x
import Derived.Test.YtpbnigpdpkfpaaaGreatDoorF
import Derived.Test.YtpbnigpdpkfpaaaGreatDoorSh
import Derived.Lib.ConvBytes
import Derived.Outline
import Derived.Deep.QuietTactic
import Derived.BigQuiet
import Derived.Test.YtpbnigpdpkfpaaaGreatDoorP1x
import Derived.Shelf.Strings.SlTrimAscii
import Derived.Laws.BitsAllLaws
namespace Go.Proofs.YtpbnigpdpkfpaaaGreatDoor
open Go.RowKit
/-- Four digits. -/
def hx4 (n : Nat) : List UInt8 := [hexd (n / 4096 % 16), hexd (n / 256 % 16), hexd (n / 16 % 16), hexd (n % 16)]
theorem hexd_0 : hexd 0 = 48 := rfl
theorem hx4_eq (n : Nat) (h : n < 65536) : List.drop (hexS n).length [48, 48, 48, 48] ++ hexS n = hx4 n := by
  unfold hx4
  rcases Nat.lt_or_ge n 16 with h1 | h1
  · rw [hexS_lt h1, show n / 4096 % 16 = 0 by omega, show n / 256 % 16 = 0 by omega, show n / 16 % 16 = 0 by omega, show n % 16 = n by omega, hexd_0]
    rfl
  rw [hexS_ge h1]
  rcases Nat.lt_or_ge n 256 with h2 | h2
  · rw [hexS_lt (by omega : n / 16 < 16), show n / 4096 % 16 = 0 by omega, show n / 256 % 16 = 0 by omega, show n / 16 % 16 = n / 16 by omega, hexd_0]
    rfl
  rw [hexS_ge (by omega : 16 ≤ n / 16)]
  rcases Nat.lt_or_ge n 4096 with h3 | h3
  · rw [hexS_lt (by omega : n / 16 / 16 < 16), show n / 4096 % 16 = 0 by omega, show n / 256 % 16 = n / 16 / 16 by omega, hexd_0]
    rfl
  rw [hexS_ge (by omega : 16 ≤ n / 16 / 16), hexS_lt (by omega : n / 16 / 16 / 16 < 16), show n / 4096 % 16 = n / 16 / 16 / 16 by omega, show n / 256 % 16 = n / 16 / 16 % 16 by omega]
  rfl
theorem hexS_le4 (n : Nat) (h : n < 65536) : (hexS n).length ≤ 4 := hexS_len 3 n (by simpa using h)
set_option maxHeartbeats 400000 in
theorem head4_any (W : World) (n : Nat) (h : n < 65536) (hT : Deb W) : Calls Tryz.prog 221 #[.int .i64 n] W fun e W' => e = .returned (.string ⟨(hx4 n).toArray⟩) ∧ Below W.heap.size W W' := by
  have hl := hexS_le4 n h
  have he := hx4_eq n h
  obtain ⟨s, hs⟩ : ∃ s : ByteArray, s = ⟨(hexS n).toArray⟩ := ⟨_, rfl⟩
  have hz : s.size ≤ 4 := by rw [hs]; exact hl
  have HT := Lib.hid hT
  have HS := Lib.hid hs
  have HE := Lib.hid he
  clear hT hs he hl
  have hz1 : (s.size : Int) ≤ 4 := by omega
  have hz2 : (0 : Int) ≤ (s.size : Int) := by omega
  go_enter Tryz.func221, Tryz.ntmps221
  go_wp2_with (go_at_call 262; refine (fint_16 _ n (by omega) HT.out).mono ?_; rintro e w' ⟨he, hb⟩; rw [← HS.out] at he; subst he; have B := Lib.hid hb; clear hb)
  go_ret
  refine ⟨?_, B.out⟩
  have e : ({ data := #[48, 48, 48, 48] } : ByteArray).extract s.size 4 ++ s = ⟨(hx4 n).toArray⟩ := by
    refine ba_ext ?_
    rw [ba_append, ba_extract, ← HE.out, HS.out]
    rfl
  rw [← e]
  rfl
theorem flush_any (W : World) (hT : Deb W) : Calls Tryz.prog 182 #[] W fun e W' => e = .returned (.string ⟨#[48, 48, 48, 48]⟩) ∧ Below W.heap.size W W' := by
  have HT := Lib.hid hT
  clear hT
  go_enter Tryz.func182, Tryz.ntmps182
  go_wp2_with (go_at_call 221; refine (head4_any _ 0 (by omega) HT.out).mono ?_; rintro e w' ⟨rfl, hb⟩; have B := Lib.hid hb; clear hb)
  go_ret
  exact ⟨rfl, B.out⟩
theorem delim_any (W : World) (hT : Deb W) : Calls Tryz.prog 181 #[] W fun e W' => e = .returned (.string ⟨#[48, 48, 48, 49]⟩) ∧ Below W.heap.size W W' := by
  have HT := Lib.hid hT
  clear hT
  go_enter Tryz.func181, Tryz.ntmps181
  go_wp2_with (go_at_call 221; refine (head4_any _ 1 (by omega) HT.out).mono ?_; rintro e w' ⟨rfl, hb⟩; have B := Lib.hid hb; clear hb)
  go_ret
  exact ⟨rfl, B.out⟩
/-- A line, framed; false where it may not be. -/
def putL (l : List UInt8) : List UInt8 × Bool := if 1 ≤ l.length ∧ l.length ≤ 1000 then (hx4 (l.length + 4) ++ l, true) else ([], false)
set_option maxHeartbeats 400000 in
theorem lput_any (W : World) (s : ByteArray) (hs : s.size ≤ 140737488355328) (hT : Deb W) : Calls Tryz.prog 178 #[.string s] W fun e W' => e = .returned (.tuple #[.string ⟨(putL s.data.toList).1.toArray⟩, .bool (putL s.data.toList).2]) ∧ Below W.heap.size W W' := by
  have hz := ba_size s
  obtain ⟨p, hp⟩ : ∃ p : ByteArray, p = ⟨(putL s.data.toList).1.toArray⟩ := ⟨_, rfl⟩
  rw [← hp]
  have HT := Lib.hid hT
  have HZ := Lib.hid hz
  have HP := Lib.hid hp
  clear hT hz hp
  by_cases h0 : s.size = 0
  · have e1 : s.toList = [] := by
      rw [ByteArray.toList_eq]
      apply List.eq_nil_of_length_eq_zero; rw [← HZ.out]; exact h0
    have h2 : (putL s.data.toList) = ([], false) := by unfold putL; rw [if_neg (by have := HZ.out; omega)]
    clear h0 hs
    go_enter Tryz.func178, Tryz.ntmps178
    go_wp2
    go_ret2
    exact ⟨by rw [HP.out, h2]; rfl, Below.refl _ _⟩
  · have e1 : ¬ s.toList = [] := by
      rw [ByteArray.toList_eq]
      intro e
      rw [HZ.out, e] at h0
      exact h0 rfl
    by_cases h1 : s.size ≤ 1000
    · have l1 : (s.size : Int) ≤ 1000 := by omega
      have l0 : (0 : Int) ≤ (s.size : Int) := by omega
      have l2 : ¬ 1000 < s.size := by omega
      have h2 : (putL s.data.toList) = (hx4 (s.size + 4) ++ s.data.toList, true) := by unfold putL; rw [if_pos (by have := HZ.out; omega), HZ.out]
      obtain ⟨q, hq⟩ : ∃ q : ByteArray, q = ⟨(hx4 (s.size + 4)).toArray⟩ := ⟨_, rfl⟩
      have hq4 : q.size ≤ 4 := by rw [hq]; exact Nat.le_refl 4
      have h3 : p = q ++ s := by
        refine ba_ext ?_
        rw [HP.out, h2, ba_append, hq]
      have h4 : (putL s.data.toList).2 = true := by rw [h2]
      have H3 := Lib.hid h3
      have H4 := Lib.hid h4
      have hc : ((s.size : Int) + 4) = ((s.size + 4 : Nat) : Int) := by omega
      clear h2 h3 h4
      have c4 := fun w h => head4_any w (s.size + 4) (by omega) h
      rw [← hc, ← hq] at c4
      have e2 : s.toList.isEmpty = false := by simpa using e1
      have e3 : decide (1000 < (s.size : Int)) = false := by simp; omega
      clear hc hs hq
      go_enter Tryz.func178, Tryz.ntmps178
      go_wp2_with (go_at_call 221; refine (c4 _ HT.out).mono ?_; rintro e w' ⟨rfl, hb⟩; have B := Lib.hid hb; clear hb)
      go_ret2
      exact ⟨by rw [H3.out, H4.out]; rfl, B.out⟩
    · have l2 : 1000 < s.size := by omega
      have h2 : (putL s.data.toList) = ([], false) := by unfold putL; rw [if_neg (by have := HZ.out; omega)]
      have H2 := Lib.hid h2
      clear h2 h0 hs h1
      go_enter Tryz.func178, Tryz.ntmps178
      go_wp2
      go_ret2
      exact ⟨by rw [HP.out, H2.out]; rfl, Below.refl _ _⟩
end Go.Proofs.YtpbnigpdpkfpaaaGreatDoor
namespace Go.Proofs.YtpbnigpdpkfpaaaGreatDoor
open Go.RowKit
theorem Deb.below {W W1 : World} (h : Deb W) (hb : Below W.heap.size W W1) : Deb W1 := by
  have h1 : W.cell? ⟨8, 15, none⟩ = some (.int .u8 4) := h
  exact (hb.cell (World.block_lt_of_cell? W _ h1)).trans h1
theorem Deb.belowB {B : Nat} {W W1 : World} (h : Deb W) (hb : Below B W W1) (hB : 8 < B) : Deb W1 := by
  have h1 : W.cell? ⟨8, 15, none⟩ = some (.int .u8 4) := h
  exact (hb.cell (p := ⟨8, 15, none⟩) hB).trans h1
theorem Deb.lt {W : World} (h : Deb W) : 8 < W.heap.size := World.block_lt_of_cell? W _ h
/-- May this be a length? -/
def lmay (n : Nat) : Bool := n == 0 || n == 1 || (decide (4 < n) && decide (n ≤ 1004))
set_option maxHeartbeats 400000 in
theorem lmay_any (W : World) (n : Nat) : Calls Tryz.prog 264 #[.int .i64 n] W fun e W' => e = .returned (.bool (lmay n)) ∧ W' = W := by
  obtain ⟨b, hb⟩ : ∃ b, b = lmay n := ⟨_, rfl⟩
  rw [← hb]
  have HB := Lib.hid hb
  clear hb
  by_cases h0 : n = 0
  · subst h0
    go_enter Tryz.func264, Tryz.ntmps264
    go_wp2
    go_ret
    exact ⟨by rw [HB.out]; rfl, rfl⟩
  by_cases h1 : n = 1
  · subst h1
    go_enter Tryz.func264, Tryz.ntmps264
    go_wp2
    go_ret
    exact ⟨by rw [HB.out]; rfl, rfl⟩
  have e0 : ((n : Int) == 0) = false := by simp; omega
  have e1 : ((n : Int) == 1) = false := by simp; omega
  by_cases h2 : 4 < n
  · by_cases h3 : n ≤ 1004
    · have d2 : decide ((4 : Int) < (n : Int)) = true := by simp; omega
      have d3 : decide ((n : Int) ≤ 1004) = true := by simp; omega
      have d4 : b = true := by rw [HB.out]; simp [lmay, h2, h3]
      have D4 := Lib.hid d4
      clear h0 h1 h2 h3 d4
      go_enter Tryz.func264, Tryz.ntmps264
      go_wp2
      go_ret
      exact ⟨by rw [D4.out]; simp, rfl⟩
    · have d2 : decide ((4 : Int) < (n : Int)) = true := by simp; omega
      have d3 : decide ((n : Int) ≤ 1004) = false := by simp; omega
      have d4 : b = false := by rw [HB.out]; simp [lmay, h0, h1, h2]; omega
      have D4 := Lib.hid d4
      clear h0 h1 h2 h3 d4
      go_enter Tryz.func264, Tryz.ntmps264
      go_wp2
      go_ret
      exact ⟨by rw [D4.out]; simp, rfl⟩
  · have d2 : decide ((4 : Int) < (n : Int)) = false := by simp; omega
    have d4 : b = false := by rw [HB.out]; simp [lmay, h0, h1]; omega
    have D4 := Lib.hid d4
    clear h0 h1 h2 d4
    go_enter Tryz.func264, Tryz.ntmps264
    go_wp2
    go_ret
    exact ⟨by rw [D4.out]; rfl, rfl⟩
def lbegins (l : List UInt8) : Bool := (List.range 1005).any fun n => lmay n && Lib.hasPrefix (hx4 n) l
def noneB (l : List UInt8) (k : Nat) : Prop := ∀ n, n < k → (lmay n && Lib.hasPrefix (hx4 n) l) = false
theorem noneB_all {l : List UInt8} (h : noneB l 1005) : lbegins l = false := by
  unfold lbegins
  rw [List.any_eq_false]
  intro n hn
  rw [h n (List.mem_range.1 hn)]
  simp
theorem someB {l : List UInt8} {n : Nat} (h : n < 1005) (h1 : (lmay n && Lib.hasPrefix (hx4 n) l) = true) : lbegins l = true := by
  unfold lbegins
  rw [List.any_eq_true]
  exact ⟨n, List.mem_range.2 h, h1⟩
theorem noneB_succ {l : List UInt8} {k : Nat} (h : noneB l k) (h1 : (lmay k && Lib.hasPrefix (hx4 k) l) = false) : noneB l (k + 1) := by
  intro n hn
  rcases Nat.lt_or_ge n k with hl | hl
  · exact h n hl
  · obtain rfl : n = k := by omega
    exact h1
set_option maxRecDepth 20000 in
set_option maxHeartbeats 800000 in
theorem begins_any (W : World) (s : ByteArray) (hT : Deb W) : Calls Tryz.prog 265 #[.string s] W fun e W' => e = .returned (.bool (lbegins s.data.toList)) ∧ Below W.heap.size W W' := by
  obtain ⟨b, hb⟩ : ∃ b, b = lbegins s.data.toList := ⟨_, rfl⟩
  rw [← hb]
  have HB := Lib.hid hb
  have HT := Lib.hid hT
  clear hb hT
  go_enter Tryz.func265, Tryz.ntmps265
  go_wp2
  go_loopw [4] (fun v wr => ∃ k : Nat, k ≤ 1005 ∧ v = .int .i64 k ∧ noneB s.data.toList k ∧ Below W.heap.size W wr) (fun v _ => 1005 - (intOf v).toNat)
  case atStart => exact ⟨0, by omega, rfl, fun n hn => by omega, Below.refl _ _⟩
  case round =>
    obtain ⟨k, hk, rfl, hn, hw⟩ := hrel
    have HN := Lib.hid hn
    have HW := Lib.hid hw
    have DW : Hid (Deb wr) := HT.out.belowB hw HT.out.lt
    clear hn hw
    by_cases hlt : k < 1005
    · have l1 : (k : Int) < 1005 := by omega
      cases hm : lmay k
      · have hm2 : Hid ((lmay k && Lib.hasPrefix (hx4 k) s.data.toList) = false) := by rw [hm]; rfl
        go_wp2_with (go_at_call 264; refine (lmay_any _ k).mono ?_; rintro e w' ⟨he, rfl⟩; rw [hm] at he; subst he)
        go_roundw
        case measure => simp [intOf]; omega
        case rel => exact ⟨k + 1, by omega, by go_num, noneB_succ HN.out hm2.out, HW.out⟩
      · cases hp : Lib.hasPrefix (hx4 k) s.data.toList
        · have hm2 : Hid ((lmay k && Lib.hasPrefix (hx4 k) s.data.toList) = false) := by rw [hm, hp]; rfl
          go_wp2_with (first | (go_at_call 264; refine (lmay_any _ k).mono ?_; rintro e w' ⟨he, rfl⟩; rw [hm] at he; subst he) | (go_at_call 221; refine (head4_any _ k (by omega) DW.out).mono ?_; rintro e w' ⟨rfl, hb⟩; have B := Lib.hid hb; clear hb) | (go_at_call 161; refine (Tryz.strings_HasPrefix _ _ _).mono ?_; rintro e w' ⟨he, rfl⟩; rw [show Lib.hasPrefix _ _ = false from hp] at he; subst he))
          go_roundw
          case measure => simp [intOf]; omega
          case rel => exact ⟨k + 1, by omega, by go_num, noneB_succ HN.out hm2.out, HW.out.trans (B.out.mono HW.out.size)⟩
        · have hm2 : Hid ((lmay k && Lib.hasPrefix (hx4 k) s.data.toList) = true) := by rw [hm, hp]; rfl
          go_wp2_with (first | (go_at_call 264; refine (lmay_any _ k).mono ?_; rintro e w' ⟨he, rfl⟩; rw [hm] at he; subst he) | (go_at_call 221; refine (head4_any _ k (by omega) DW.out).mono ?_; rintro e w' ⟨rfl, hb⟩; have B := Lib.hid hb; clear hb) | (go_at_call 161; refine (Tryz.strings_HasPrefix _ _ _).mono ?_; rintro e w' ⟨he, rfl⟩; rw [show Lib.hasPrefix _ _ = true from hp] at he; subst he))
          go_ret
          exact ⟨by rw [HB.out, someB hlt hm2.out]; rfl, HW.out.trans (B.out.mono HW.out.size)⟩
    · have hk : k = 1005 := by omega
      subst hk
      go_wp2
      go_ret
      exact ⟨by rw [HB.out, noneB_all HN.out]; rfl, HW.out⟩
end Go.Proofs.YtpbnigpdpkfpaaaGreatDoor
namespace Go.Proofs.YtpbnigpdpkfpaaaGreatDoor
open Go.RowKit
def digitsL : List UInt8 := [48, 49, 50, 51, 52, 53, 54, 55, 56, 57, 97, 98, 99, 100, 101, 102]
/-- A digit's number; -1. -/
def hv (c : UInt8) : Int := Lib.indexByte digitsL c
theorem hv_lt (c : UInt8) : hv c < 16 ∧ -1 ≤ hv c := by
  have h : ∀ n : Fin 256, hv (UInt8.ofNat n.val) < 16 ∧ -1 ≤ hv (UInt8.ofNat n.val) := by decide +kernel
  have := h ⟨c.toNat, c.toNat_lt⟩
  simpa using this
def hstep (a : Option Nat) (c : UInt8) : Option Nat := a.bind fun n => if hv c < 0 then none else some (n * 16 + (hv c).toNat)
/-- The number that digits are. -/
def hnum (l : List UInt8) : Option Nat := l.foldl hstep (some 0)
theorem hnum_snoc (l : List UInt8) (c : UInt8) : hnum (l ++ [c]) = hstep (hnum l) c := by simp [hnum]
theorem hnum_none (l m : List UInt8) (h : hnum l = none) : hnum (l ++ m) = none := by
  have : ∀ m : List UInt8, m.foldl hstep none = none := by
    intro m
    induction m with
    | nil => rfl
    | cons c m ih => exact ih
  unfold hnum at h ⊢
  rw [List.foldl_append, h]
  exact this m
theorem hnum_lt (l : List UInt8) (k : Nat) (hk : k ≤ l.length) : ∀ n, hnum (l.take k) = some n → n < 16 ^ k := by
  induction k with
  | zero => intro n h; simp [hnum] at h; simp; omega
  | succ k ih =>
    intro n h
    rw [List.take_succ_eq_append_getElem (by omega), hnum_snoc] at h
    unfold hstep at h
    cases hl : hnum (l.take k) with
    | none => rw [hl] at h; cases h
    | some m =>
      rw [hl] at h
      simp only [Option.bind_some] at h
      have h1 := ih (by omega) m hl
      have h2 := hv_lt l[k]
      split at h
      · cases h
      · injection h with h
        rw [Nat.pow_succ]
        omega
/-- A text as a row of bytes: the world behind it. -/
theorem conv_bytes (W : World) (s : ByteArray) : ∃ c w1, (convert 9 53 (.string s)).run Tryz.prog W = .ok (.slice (some ⟨W.heap.size, 0, none⟩) s.size c) w1 ∧ Src w1 1 (some ⟨W.heap.size, 0, none⟩) s.size (Bs s.data.toList) ∧ Below W.heap.size W w1 ∧ w1.heap.size = W.heap.size + 1 ∧ s.size ≤ c := by
  have hs : Tryz.prog.underlying 9 = some .string := by kernel_rfl
  have he : Tryz.prog.underlying 5 = some (.int .u8) := by kernel_rfl
  refine ⟨_, _, Lib.run_convert_string_bytes W _ _ _ s hs Tryz.underlying53 he, ⟨by rw [Bs_length, Nat.mul_one]; exact (ba_size s).symm, fun _ => ⟨_, rfl, fun j u hu => ?_⟩, Bs_one _⟩, ⟨rfl, rfl, rfl, ?_, fun k hk => Lib.bytesWorld_at_old W _ s k hk⟩, Lib.bytesWorld_size W _ s, grownCap_ge W _ _ _⟩
  · have ha : (⟨W.heap.size, 0, none⟩ : Addr).add j = ⟨W.heap.size, j, none⟩ := by unfold Addr.add; split <;> simp_all
    have hj : j < s.size := by
      rcases Nat.lt_or_ge j s.size with h | h
      · exact h
      · have : (Bs s.data.toList)[j]? = none := List.getElem?_eq_none (by rw [Bs_length, ← ba_size]; exact h)
        rw [this] at hu; cases hu
    rw [ha, Lib.bytesWorld_cell W _ s j hj, ← hu, Bs_at _ _ (by rw [← ba_size]; exact hj)]
    rfl
  · rw [Lib.bytesWorld_size]; omega
section
variable {P : Program} {ops : Array Oper} {rest : List Oper} {o : Oper} {a : Act} {w : World} {Q : Exit → Act → World → Prop}
/-- A conversion that makes memory. -/
theorem wpl_convw (hgd : o.guard = none) (t1 t2 : TypeId) (x : Operand) (ho : o.op = .convert t1 t2 x) (v0 : Value) (hx : a.eval x = v0) (v : Value) (w1 : World) (h0 : (convert t1 t2 v0).run P w = .ok v w1)
    (h : wpList P ops Q rest (a.put o.dst v) w1) : wpList P ops Q (o :: rest) a w := by
  refine wpList_plain hgd fun K hK => ?_
  unfold Oper.wp execOp
  simp only [ho, Sem.run_bind, Sem.run_pure, Result.andThen_ok, hx, h0]
  exact hK _ _ h
end
/-- Number's answer. -/
def numR (l : List UInt8) : Nat × Nat :=
  match hnum (l.take 4) with
  | none => (0, 1)
  | some n => if decide (4 ≤ l.length) && lmay n then (n, 0) else if decide (l.length < 4) && lbegins l then (0, 2) else (0, 1)
def NumRel (tl : List UInt8) (m : Nat) (v i : Value) : Prop := ∃ k n : Nat, k ≤ m ∧ i = .int .i64 k ∧ v = .int .i64 n ∧ hnum (tl.take k) = some n
set_option maxRecDepth 100000 in
set_option maxHeartbeats 800000 in
theorem number_any (W : World) (s : ByteArray) (hs : s.size ≤ 140737488355328) (hT : Deb W) : Calls Tryz.prog 222 #[.string s] W fun e W' => e = .returned (.tuple #[.int .i64 (numR s.data.toList).1, .int .i64 (numR s.data.toList).2]) ∧ Below W.heap.size W W' := by
  obtain ⟨b, hb⟩ : ∃ b, b = numR s.data.toList := ⟨_, rfl⟩
  rw [← hb]
  have HB := Lib.hid hb
  have HT := Lib.hid hT
  have HZ := Lib.hid (ba_size s)
  clear hb hT
  obtain ⟨t, ht⟩ : ∃ t : ByteArray, s.extract 0 (min (s.size : Int) 4).toNat = t := ⟨_, rfl⟩
  have e4 : (min (s.size : Int) 4).toNat = min s.size 4 := by omega
  have ht2 : t.data.toList = s.data.toList.take 4 := by
    rw [← ht, e4, ba_upto, ba_size, Nat.min_comm, ← List.take_take, List.take_length]
  have ht3 : t.size ≤ 4 := by rw [ba_size, ht2]; exact List.length_take_le _ _
  have ht4 : t.size ≤ s.size := by rw [ba_size, ht2, ba_size]; exact List.length_take_le' _ _
  have htl : t.data.toList.length = t.size := (ba_size t).symm
  have hfull : s.size < 4 ∨ 4 ≤ s.size := by omega
  obtain ⟨c, w1, hcv, hsrc, hbw, hsz1, hc⟩ := conv_bytes W t
  obtain ⟨tl, htl2⟩ : ∃ tl, tl = t.data.toList := ⟨_, rfl⟩
  rw [← htl2] at hsrc ht2 htl
  have S1 := Lib.hid hsrc
  have B1 := Lib.hid hbw
  have T2 := Lib.hid ht2
  have TL := Lib.hid htl
  have D1 := Lib.hid (HT.out.below hbw)
  have l0 : (0 : Int) ≤ (s.size : Int) := by omega
  have l3 : (t.size : Int) ≤ 4 := by omega
  have l5 : (t.size : Int) ≤ (s.size : Int) := by omega
  have C1 := Lib.hid hcv
  have HTT := Lib.hid ht
  clear hsrc hbw hsz1 ht2 htl htl2 hcv ht e4
  go_enter Tryz.func222, Tryz.ntmps222
  go_wp2_with (refine wpl_convw rfl 9 53 _ rfl _ (congrArg Value.string HTT.out) _ w1 C1.out ?_)
  go_loop [4, 15] (fun v i => NumRel tl t.size v i) (fun _ i => t.size - (intOf i).toNat)
  case atStart => exact ⟨0, 0, by omega, rfl, rfl, rfl⟩
  case round =>
    obtain ⟨k, n, hk, rfl, rfl, hn⟩ := hrel
    have hlt := hnum_lt tl k (by rw [TL.out]; exact hk) n hn
    have hpw : 16 ^ k ≤ 16 ^ 4 := Nat.pow_le_pow_right (by omega) (by omega)
    have n1 : (n : Int) < 65536 := by have : n < 65536 := by (have : (16 : Nat) ^ 4 = 65536 := by decide); omega
                                      omega
    have HN := Lib.hid hn
    clear hn hlt hpw
    by_cases hkt : k < t.size
    · obtain ⟨x, hx⟩ : ∃ x, x = gb tl k := ⟨_, rfl⟩
      have hcell : w1.cell? ⟨W.heap.size, k, none⟩ = some (.int .u8 (ub x)) := by
        have hm : 0 < t.size := by omega
        obtain ⟨ad, e, hc⟩ := S1.out.2.1 hm
        obtain rfl := Option.some.inj e
        have := hc k _ (Bs_at tl k (by rw [TL.out]; exact hkt))
        have ha : (⟨W.heap.size, 0, none⟩ : Addr).add k = ⟨W.heap.size, k, none⟩ := by unfold Addr.add; split <;> simp_all
        rw [ha] at this
        rw [this, hx]
      have hxt : tl.take (k + 1) = tl.take k ++ [x] := by
        rw [List.take_succ_eq_append_getElem (by rw [TL.out]; exact hkt), hx]
        simp [gb, List.getD_eq_getElem?_getD, List.getElem?_eq_getElem (show k < tl.length by rw [TL.out]; exact hkt)]
      have hst : hnum (tl.take (k + 1)) = hstep (some n) x := by rw [hxt, hnum_snoc, HN.out]
      have hub : (ub x).toNat.toUInt8 = x := by simp [ub]
      obtain ⟨d, hd⟩ : ∃ d, d = hv x := ⟨_, rfl⟩
      have hd16 := hv_lt x
      rw [← hd] at hd16
      obtain ⟨d1, d2⟩ := hd16
      have X1 := Lib.hid hx
      have X2 := Lib.hid hst
      have HD := Lib.hid hd
      have ci : ∀ w, Calls Tryz.prog 263 #[.string digitsB, .int .u8 (ub x)] w fun e w' => e = .returned (.int .i64 d) ∧ w' = w := by
        intro w
        have := Tryz.strings_IndexByte digitsB (ub x) w
        rw [hub, show Lib.indexByte digitsB.data.toList x = hv x from rfl, ← hd] at this
        exact this
      clear hx hxt hst hub hd
      by_cases hneg : d < 0
      · clear d2
        go_wp2_with (go_at_call 263; refine (ci _).mono ?_; rintro e w' ⟨rfl, rfl⟩)
        go_ret2
        have hnn : hnum (s.data.toList.take 4) = none := by
          rw [← T2.out, ← List.take_append_drop (k + 1) tl]
          refine hnum_none _ _ ?_
          rw [X2.out]
          unfold hstep
          rw [← HD.out]
          simp [hneg]
        exact ⟨by rw [HB.out]; unfold numR; rw [hnn]; rfl, B1.out⟩
      · obtain ⟨dn, rfl⟩ : ∃ m : Nat, d = m := ⟨d.toNat, by omega⟩
        clear d2 hneg
        have d3 : (0 : Int) ≤ (dn : Int) := by omega
        have n0 : (0 : Int) ≤ (n : Int) := by omega
        have q1 : wrap64 ((n : Int) * 16) = (n : Int) * 16 := by unfold wrap64; omega
        have q2 : wrap64 ((n : Int) * 16 + (dn : Int)) = ((n * 16 + dn : Nat) : Int) := by unfold wrap64; omega
        obtain ⟨z, hz⟩ : ∃ z, z = n * 16 + dn := ⟨_, rfl⟩
        rw [← hz] at q2
        have Z := Lib.hid hz
        clear hfull ht3 ht4 l0 l5 hc hs hk hz n1 d1 d3 n0
        go_wp2_with (go_at_call 263; refine (ci _).mono ?_; rintro e w' ⟨rfl, rfl⟩)
        go_round
        case measure => simp [intOf]; omega
        case rel =>
          refine ⟨k + 1, z, by omega, by go_num, by rw [q2], ?_⟩
          rw [X2.out, Z.out]
          unfold hstep
          rw [← HD.out]
          simp
    · have hk2 : k = t.size := by omega
      have hnn : hnum (s.data.toList.take 4) = some n := by
        rw [← T2.out, ← HN.out, List.take_of_length_le (by rw [TL.out]; omega)]
      have HNN := Lib.hid hnn
      clear hnn
      subst hk2
      by_cases h4 : 4 ≤ s.size
      · have l4 : (4 : Int) ≤ (s.size : Int) := by omega
        have g4 : decide ((4 : Int) ≤ (s.size : Int)) = true := by simp; omega
        have g5 : decide ((s.size : Int) < 4) = false := by simp; omega
        cases hm : lmay n
        · go_wp2_with (go_at_call 264; refine (lmay_any _ n).mono ?_; rintro e w' ⟨he, rfl⟩; rw [hm] at he; subst he)
          go_ret2
          exact ⟨by rw [HB.out]; unfold numR; rw [HNN.out]; simp [hm, ← HZ.out, h4]; try (rw [if_neg (by omega)]; simp), B1.out⟩
        · go_wp2_with (go_at_call 264; refine (lmay_any _ n).mono ?_; rintro e w' ⟨he, rfl⟩; rw [hm] at he; subst he)
          go_ret2
          exact ⟨by rw [HB.out]; unfold numR; rw [HNN.out]; simp [hm, ← HZ.out, h4]; try (rw [if_neg (by omega)]; simp), B1.out⟩
      · have l4 : (s.size : Int) < 4 := by omega
        have g4 : decide ((4 : Int) ≤ (s.size : Int)) = false := by simp; omega
        have g5 : decide ((s.size : Int) < 4) = true := by simp; omega
        cases hm : lbegins s.data.toList
        · go_wp2_with (go_at_call 265; refine (begins_any _ s D1.out).mono ?_; rintro e w' ⟨he, hb⟩; rw [hm] at he; subst he; have B2 := Lib.hid hb; clear hb)
          go_ret2
          exact ⟨by rw [HB.out]; unfold numR; rw [HNN.out]; simp [hm, ← HZ.out, h4]; try (rw [if_pos (by omega)]; simp), B1.out.trans (B2.out.mono B1.out.size)⟩
        · go_wp2_with (go_at_call 265; refine (begins_any _ s D1.out).mono ?_; rintro e w' ⟨he, hb⟩; rw [hm] at he; subst he; have B2 := Lib.hid hb; clear hb)
          go_ret2
          exact ⟨by rw [HB.out]; unfold numR; rw [HNN.out]; simp [hm, ← HZ.out, h4]; try (rw [if_pos (by omega)]; simp), B1.out.trans (B2.out.mono B1.out.size)⟩
end Go.Proofs.YtpbnigpdpkfpaaaGreatDoor
namespace Go.Proofs.YtpbnigpdpkfpaaaGreatDoor
open Go.RowKit
theorem results_tmp4 {P : Program} {fn : Func} {r s t u : Tmp} (h : fn.results = #[.tmp r, .tmp s, .tmp t, .tmp u]) (tmps : Array Value) (w : World) :
    (results fn tmps).run P w = .ok (.tuple #[tmps.getD r undef, tmps.getD s undef, tmps.getD t undef, tmps.getD u undef]) w := by
  simp [results, h]
/-- Get's answer: kind, text, length, error. -/
def getR (l : List UInt8) : Nat × List UInt8 × Nat × Nat :=
  if (numR l).2 ≠ 0 then (0, [], 0, (numR l).2) else if (numR l).1 = 0 then (2, [], 4, 0) else if (numR l).1 = 1 then (3, [], 4, 0)
  else if l.length < (numR l).1 then (0, [], 0, 2) else (1, (l.take (numR l).1).drop 4, (numR l).1, 0)
def getV (r : Nat × List UInt8 × Nat × Nat) : Value := .tuple #[.int .i64 r.1, .string ⟨r.2.1.toArray⟩, .int .i64 r.2.2.1, .int .i64 r.2.2.2]
theorem numR_ok {l : List UInt8} (h : (numR l).2 = 0) : 4 ≤ l.length ∧ lmay (numR l).1 = true ∧ hnum (l.take 4) = some (numR l).1 := by
  unfold numR at h ⊢
  cases hn : hnum (l.take 4) with
  | none => rw [hn] at h; cases h
  | some n =>
    rw [hn] at h
    simp only at h ⊢
    by_cases h1 : (decide (4 ≤ l.length) && lmay n) = true
    · rw [if_pos h1]
      simp at h1
      exact ⟨h1.1, h1.2, rfl⟩
    · rw [if_neg h1] at h
      split at h <;> cases h
theorem lmay_le {n : Nat} (h : lmay n = true) : n = 0 ∨ n = 1 ∨ (4 < n ∧ n ≤ 1004) := by
  simp [lmay] at h
  omega
theorem numR_err (l : List UInt8) : (numR l).2 ≤ 2 := by
  unfold numR
  split
  · simp
  · split
    · simp
    · split <;> simp
set_option maxRecDepth 100000 in
set_option maxHeartbeats 800000 in
theorem get_any (W : World) (s : ByteArray) (hs : s.size ≤ 140737488355328) (hT : Deb W) : Calls Tryz.prog 179 #[.string s] W fun e W' => e = .returned (getV (getR s.data.toList)) ∧ Below W.heap.size W W' := by
  obtain ⟨b, hb⟩ : ∃ b, b = getV (getR s.data.toList) := ⟨_, rfl⟩
  rw [← hb]
  have hz := ba_size s
  have hok := @numR_ok s.data.toList
  have herr := numR_err s.data.toList
  have hc := number_any W s hs hT
  unfold getR at hb
  obtain ⟨n, hn⟩ : ∃ n, n = (numR s.data.toList).1 := ⟨_, rfl⟩
  obtain ⟨x, hx⟩ : ∃ x, x = (numR s.data.toList).2 := ⟨_, rfl⟩
  rw [← hn, ← hx] at hc hb hok
  rw [← hx] at herr
  rw [← hz] at hok hb
  have HC := Lib.hid hc
  by_cases h0 : x = 0
  · subst h0
    obtain ⟨k4, hm, _⟩ := hok rfl
    rw [if_neg (by simp)] at hb
    have hle := lmay_le hm
    have k4' : (4 : Int) ≤ (s.size : Int) := by omega
    clear hn hx hok herr hc hm hT hs hz
    rcases hle with rfl | rfl | ⟨g1, g2⟩
    · rw [if_pos rfl] at hb
      have HB := Lib.hid hb
      clear hb
      go_enter Tryz.func179, Tryz.ntmps179
      go_wp2_with (go_at_call 222; refine HC.out.mono ?_; rintro e w' ⟨rfl, hb⟩; have B := Lib.hid hb; clear hb)
      refine bodyPost_ret (results_tmp4 rfl _ _) rfl ?_
      exact ⟨by rw [HB.out]; rfl, B.out⟩
    · rw [if_neg (by omega), if_pos rfl] at hb
      have HB := Lib.hid hb
      clear hb
      go_enter Tryz.func179, Tryz.ntmps179
      go_wp2_with (go_at_call 222; refine HC.out.mono ?_; rintro e w' ⟨rfl, hb⟩; have B := Lib.hid hb; clear hb)
      refine bodyPost_ret (results_tmp4 rfl _ _) rfl ?_
      exact ⟨by rw [HB.out]; rfl, B.out⟩
    · rw [if_neg (by omega), if_neg (by omega)] at hb
      have e0 : ((n : Int) == 0) = false := by simp; omega
      have e1 : ((n : Int) == 1) = false := by simp; omega
      have e4 : (4 : Int) ≤ (n : Int) := by omega
      have e5 : (n : Int) ≤ 1004 := by omega
      by_cases hl : s.size < n
      · rw [if_pos hl] at hb
        have HB := Lib.hid hb
        have hl2 : (s.size : Int) < (n : Int) := by omega
        clear hb g1 g2
        go_enter Tryz.func179, Tryz.ntmps179
        go_wp2_with (go_at_call 222; refine HC.out.mono ?_; rintro e w' ⟨rfl, hb⟩; have B := Lib.hid hb; clear hb)
        refine bodyPost_ret (results_tmp4 rfl _ _) rfl ?_
        exact ⟨by rw [HB.out]; rfl, B.out⟩
      · rw [if_neg hl] at hb
        have HB := Lib.hid hb
        have hl2 : (n : Int) ≤ (s.size : Int) := by omega
        have hl3 : n ≤ s.size := by omega
        have hl4 : 4 ≤ n := by omega
        clear hb g1 g2
        go_enter Tryz.func179, Tryz.ntmps179
        go_wp2_with (go_at_call 222; refine HC.out.mono ?_; rintro e w' ⟨rfl, hb⟩; have B := Lib.hid hb; clear hb)
        go_quiet (fail)
        go_wp2
        refine bodyPost_ret (results_tmp4 rfl _ _) rfl ?_
        refine ⟨?_, below_drewN' B.out _⟩
        have e : (⟨(List.drop 4 (List.take n s.data.toList)).toArray⟩ : ByteArray) = s.extract 4 n := ba_ext (by rw [ba_extract])
        rw [HB.out]
        unfold getV
        simp only [e]
        rfl
  · have e0 : ((x : Int) == 0) = false := by simp; omega
    have e1 : ((x : Int) != 0) = true := by simp; omega
    rw [if_pos h0] at hb
    have HB := Lib.hid hb
    clear hn hx hok herr hc hT hs hz h0 hb
    go_enter Tryz.func179, Tryz.ntmps179
    go_wp2_with (go_at_call 222; refine HC.out.mono ?_; rintro e w' ⟨rfl, hb⟩; have B := Lib.hid hb; clear hb)
    refine bodyPost_ret (results_tmp4 rfl _ _) rfl ?_
    exact ⟨by rw [HB.out]; rfl, B.out⟩
end Go.Proofs.YtpbnigpdpkfpaaaGreatDoor
namespace Go.Proofs.YtpbnigpdpkfpaaaGreatDoor
open Go.RowKit
theorem getR_ok {l : List UInt8} (h : (getR l).2.2.2 = 0) : 4 ≤ (getR l).2.2.1 ∧ (getR l).2.2.1 ≤ l.length := by
  unfold getR at h ⊢
  by_cases h1 : (numR l).2 = 0
  · obtain ⟨k4, hm, _⟩ := numR_ok h1
    have hle := lmay_le hm
    rw [if_neg (by omega)] at h ⊢
    split at h
    · rename_i e; rw [if_pos e]; exact ⟨Nat.le_refl _, k4⟩
    · rename_i e
      rw [if_neg e]
      split at h
      · rename_i e2; rw [if_pos e2]; exact ⟨Nat.le_refl _, k4⟩
      · rename_i e2
        rw [if_neg e2]
        split at h
        · cases h
        · rename_i e3; rw [if_neg e3]; simp only; omega
  · rw [if_pos h1] at h
    exact absurd h h1
/-- The lines of l from a place on. -/
def allR (l : List UInt8) (at_ : Nat) (acc : List (List UInt8)) : List (List UInt8) × Nat × Nat :=
  if _h : (getR (l.drop at_)).2.2.2 = 0 then
    if (getR (l.drop at_)).1 = 2 then (acc, at_ + (getR (l.drop at_)).2.2.1, 0)
    else if l.length < at_ then ([], 0, 1)
    else allR l (at_ + (getR (l.drop at_)).2.2.1) (acc ++ [(getR (l.drop at_)).2.1])
  else ([], 0, (getR (l.drop at_)).2.2.2)
termination_by l.length + 1 - at_
decreasing_by
  have := getR_ok _h
  rw [List.length_drop] at this
  omega
/-- Texts as cells. -/
def Ss (l : List (List UInt8)) : List Value := l.map fun t => .string ⟨t.toArray⟩
@[simp] theorem Ss_length (l : List (List UInt8)) : (Ss l).length = l.length := by simp [Ss]
theorem src_box1 (w : World) (x : Value) (T : TypeId) (hx : x.oneCell' = true) (k : Nat) (hk : w.heap.size = k) : Src (w.alloc (.cells #[x] T)) 1 (some ⟨k, 0, none⟩) 1 [x] := by
  subst hk
  refine ⟨rfl, fun _ => ⟨_, rfl, fun j u hu => ?_⟩, by intro u hu; simp at hu; subst hu; exact hx⟩
  have hj : j = 0 := by
    rcases j with _ | j
    · rfl
    · simp at hu
  subst hj
  have := (Blk.new w T [x]).cell 0 u (by simpa using hu)
  simpa [Addr.add] using this
theorem Tryz.infoS : (Tryz.prog.info? 9).map (fun i => (i.zero, i.size, i.bytes)) = some (some (.string ⟨#[]⟩), 1, 16) := by kernel_rfl
/-- What All answers. -/
def AllPost (W : World) (l : List UInt8) (e : Ending) (W' : World) : Prop :=
  ∃ v, e = .returned (.tuple #[v, .int .i64 (allR l 0 []).2.1, .int .i64 (allR l 0 []).2.2]) ∧ RowQ W' W.heap.size 9 1 v (allR l 0 []).1.length (Ss (allR l 0 []).1) ∧ Below W.heap.size W W'
def AllRel (W : World) (l : List UInt8) (v i : Value) (wr : World) : Prop :=
  ∃ (a : Nat) (acc : List (List UInt8)), i = .int .i64 a ∧ a ≤ l.length ∧ acc.length * 4 ≤ a ∧ RowQ wr W.heap.size 9 1 v acc.length (Ss acc) ∧ Below W.heap.size W wr ∧ allR l 0 [] = allR l a acc
set_option maxRecDepth 100000 in
set_option maxHeartbeats 1000000 in
theorem all_any (W : World) (s : ByteArray) (hs : s.size ≤ 1099511627776) (hT : Deb W) : Calls Tryz.prog 180 #[.string s] W (AllPost W s.data.toList) := by
  have HT := Lib.hid hT
  have hz := ba_size s
  obtain ⟨l, hl⟩ : ∃ l, l = s.data.toList := ⟨_, rfl⟩
  rw [← hl] at hz ⊢
  have HZ := Lib.hid hz
  have HL := Lib.hid hl
  clear hT hz hl
  go_enter Tryz.func180, Tryz.ntmps180
  go_wp2
  go_loopw [5, 6] (fun v i wr => AllRel W l v i wr) (fun _ i _ => s.size - (intOf i).toNat)
  case atStart => exact ⟨0, [], rfl, by omega, by simp, RowQ.nil _ _ _ _, Below.refl _ _, rfl⟩
  case round =>
    obtain ⟨a, acc, rfl, ha, hacc, hr, hb, hall⟩ := hrel
    have DW : Hid (Deb wr) := HT.out.belowB hb HT.out.lt
    obtain ⟨A1, c1, rfl, hc1, hm1⟩ := hr.shape
    have R := Lib.hid hr
    have B := Lib.hid hb
    obtain ⟨g, hg⟩ : ∃ g, g = getR (l.drop a) := ⟨_, rfl⟩
    have hok := @getR_ok (l.drop a)
    conv at hall => rhs; rw [allR]
    rw [← hg] at hall
    rw [← hg, List.length_drop] at hok
    obtain ⟨k, x, n, r⟩ := g
    simp only at hok hall
    have a1 : (a : Int) ≤ (s.size : Int) := by have := HZ.out; omega
    have a2 : a ≤ s.size := by have := HZ.out; omega
    have ht : (s.extract a s.size).data.toList = l.drop a := by rw [ba_from, HL.out]
    have hcall := get_any wr (s.extract a s.size) (by rw [ByteArray.size_extract]; omega) DW.out
    rw [ht, ← hg] at hcall
    unfold getV at hcall
    simp only at hcall
    have HC := Lib.hid hcall
    have HA := Lib.hid ha
    have HACC := Lib.hid hacc
    clear hr hb hg ht hcall ha hacc
    by_cases hr0 : r = 0
    · subst hr0
      obtain ⟨n4, nle⟩ := hok rfl
      rw [dif_pos rfl] at hall
      have n5 : (n : Int) ≤ (s.size : Int) - (a : Int) := by have := HZ.out; omega
      have s5 : (s.size : Int) ≤ 1099511627776 := by omega
      clear hok
      by_cases hk2 : k = 2
      · subst hk2
        rw [if_pos rfl] at hall
        have HALL := Lib.hid hall
        clear hall hs n4 nle
        go_wp2_with (go_at_call 179; refine HC.out.mono ?_; rintro e w' ⟨rfl, hb⟩; have B2 := Lib.hid hb; clear hb)
        go_ret3
        rw [show AllPost W l = AllPost W l from rfl]
        unfold AllPost
        rw [HALL.out]
        exact ⟨_, rfl, R.out.below B2.out, B.out.trans (B2.out.mono B.out.size)⟩
      · rw [if_neg hk2, if_neg (by have := HA.out; omega)] at hall
        have HALL := Lib.hid hall
        have e2 : ((k : Int) == 2) = false := by simp; omega
        clear hall hs hk2
        go_wp2_with (first | (go_at_call 179; refine HC.out.mono ?_; rintro e w' ⟨rfl, hb⟩; have B2 := Lib.hid hb; clear hb) | (at_builtin; refine wpl_append rfl (.tmp 30) (.tmp 32) 108 rfl W.heap.size 9 (.string ⟨#[]⟩) 1 16 Tryz.underlying108 Tryz.infoS rfl (by decide) (.slice A1 acc.length c1) acc.length (Ss acc) rfl ((R.out.below B2.out).alloc _) _ 1 1 [.string ⟨x.toArray⟩] rfl (src_box1 _ _ _ rfl _ rfl) (by have := HACC.out; have := HA.out; have := HZ.out; omega) (by have := HACC.out; have := HA.out; have := HZ.out; omega) (by rw [hsz]; have := (B.out.trans (B2.out.mono B.out.size)).size; omega) ?_; intro v3 w3 hr3 hg3 hat3; have R3 := Lib.hid hr3; have G3 := Lib.hid hg3; clear hr3 hg3 hat3))
        go_roundw
        case measure => simp [intOf]; omega
        case rel =>
          refine ⟨a + n, acc ++ [x], by go_num, by have := HZ.out; omega, by rw [List.length_append]; simp; have := HACC.out; omega, ?_, ?_, HALL.out⟩
          · rw [List.length_append]; simpa [Ss] using R3.out
          · have hb2 := (B.out.trans (B2.out.mono B.out.size))
            exact grown_low (hb2.alloc (by have := hb2.size; omega) _) (by rw [hsz]; have := hb2.size; omega) G3.out (fun j e => (R.out.lt j e).1)
    · have e0 : ((r : Int) != 0) = true := by simp; omega
      rw [dif_neg hr0] at hall
      have HALL := Lib.hid hall
      clear hall hok hs hr0
      go_wp2_with (go_at_call 179; refine HC.out.mono ?_; rintro e w' ⟨rfl, hb⟩; have B2 := Lib.hid hb; clear hb)
      go_ret3
      unfold AllPost
      rw [HALL.out]
      exact ⟨_, rfl, RowQ.nil _ _ _ _, B.out.trans (B2.out.mono B.out.size)⟩
end Go.Proofs.YtpbnigpdpkfpaaaGreatDoor
namespace Go.Proofs.YtpbnigpdpkfpaaaGreatDoor
open Go.RowKit
theorem var_below {P : Program} {w w1 : World} {n : String} {cs : Array Value} (h : w.var? P n = some cs) (hb : Below w.heap.size w w1) : w1.var? P n = some cs := by
  unfold World.var? at h ⊢
  cases hg : P.globalNamed n with
  | none => simp [hg] at h
  | some g =>
    simp only [hg, Option.bind_some] at h ⊢
    have hlt : g < w.heap.size := by
      rcases Nat.lt_or_ge g w.heap.size with h' | h'
      · exact h'
      · simp [Array.getElem?_eq_none h'] at h
    rw [hb.block g hlt]
    exact h
/-- What the program's start has laid. -/
structure Gl (W : World) : Prop where
  deb : Deb W
  pow : Lib.TabIs Tryz.prog W "internal/strconv.uint64pow10" .u64 Lib.pow10Tab
  mlen : ∃ m, W.cell? ⟨1, 0, none⟩ = some (.int .i64 m)
theorem Gl.below {W W1 : World} (h : Gl W) (hb : Below W.heap.size W W1) : Gl W1 :=
  ⟨h.deb.below hb, var_below h.pow hb, h.mlen.imp fun _ hm => (hb.cell (World.block_lt_of_cell? W _ hm)).trans hm⟩
theorem below_grow' (w : World) (k : Nat) (os : Array Obj) : Below w.heap.size w (Go.Sort.grow (w.drewN k) os) :=
  ⟨rfl, rfl, rfl, by simp [Go.Sort.grow], fun j hj => by
    show (w.heap ++ os)[j]? = _
    rw [Array.getElem?_append_left hj]⟩
/-- The decimal digits of a number that is not below 0. -/
theorem itoa_any (W : World) (n : Nat) (hn : n ≤ 9223372036854775807) (hG : Gl W) : Calls Tryz.prog 132 #[.int .i64 n] W fun e W' => e = .returned (.string ⟨(Lib.decDigits n).toArray⟩) ∧ Below W.heap.size W W' := by
  refine (Tryz.strconv_Itoa (n : Int) (by omega) (by omega) W hG.pow).mono ?_
  rintro e W' ⟨rfl, k, os, rfl⟩
  refine ⟨by simp [Lib.itoa], ?_⟩
  exact below_grow' _ _ _
end Go.Proofs.YtpbnigpdpkfpaaaGreatDoor
namespace Go.Proofs.YtpbnigpdpkfpaaaGreatDoor
theorem hv_hexd (n : Nat) (h : n < 16) : hv (hexd n) = n := by
  have : ∀ m : Fin 16, hv (hexd m.val) = (m.val : Int) := by decide +kernel
  exact this ⟨n, h⟩
/-- A line as it stands on the wire: its text, or no text for what stands between. -/
def itemL (t : List UInt8) : List UInt8 := if 1 ≤ t.length then hx4 (t.length + 4) ++ t else hx4 1
/-- Lines, and a flush. -/
def wireL : List (List UInt8) → List UInt8
  | [] => hx4 0
  | t :: ts => itemL t ++ wireL ts
/-- Lines one behind the other, the flush last. -/
def itemsL (ts : List (List UInt8)) : List UInt8 := ts.flatMap itemL
end Go.Proofs.YtpbnigpdpkfpaaaGreatDoor
namespace Go.Proofs.YtpbnigpdpkfpaaaGreatDoor
theorem hexd_hv (c : UInt8) (h : ¬ hv c < 0) : hexd (hv c).toNat = c ∧ (hv c).toNat < 16 := by
  have : ∀ n : Fin 256, ¬ hv (UInt8.ofNat n.val) < 0 → hexd (hv (UInt8.ofNat n.val)).toNat = UInt8.ofNat n.val ∧ (hv (UInt8.ofNat n.val)).toNat < 16 := by decide +kernel
  have := this ⟨c.toNat, c.toNat_lt⟩
  simp only [UInt8.ofNat_toNat] at this
  exact this h
/-- Get, as the document's answer has it. -/
def getQ (l : List UInt8) : Nat × List UInt8 × Nat × Nat :=
  if lbegins (l.take 4) = false then (0, [], 0, 1) else if l.length < 4 then (0, [], 0, 2) else if (hnum (l.take 4)).getD 0 = 0 then (2, [], 4, 0) else if (hnum (l.take 4)).getD 0 = 1 then (3, [], 4, 0)
  else if l.length < (hnum (l.take 4)).getD 0 then (0, [], 0, 2) else (1, (l.take ((hnum (l.take 4)).getD 0)).drop 4, (hnum (l.take 4)).getD 0, 0)
end Go.Proofs.YtpbnigpdpkfpaaaGreatDoor
namespace Go.Proofs.YtpbnigpdpkfpaaaGreatDoor
/-- Are these digits, all of them? -/
def isHexL (l : List UInt8) : Bool := l.all fun c => decide (0 ≤ hv c)
/-- What pairs of digits say. -/
def unhex : List UInt8 → List UInt8
  | a :: b :: r => UInt8.ofNat ((hv a).toNat * 16 + (hv b).toNat) :: unhex r
  | _ => []
theorem unhex_hexL (l : List UInt8) : unhex (hexL l) = l ∧ isHexL (hexL l) = true := by
  induction l with
  | nil => exact ⟨rfl, rfl⟩
  | cons c l ih =>
    have e : hexL (c :: l) = hexd (c.toNat / 16) :: hexd (c.toNat % 16) :: hexL l := rfl
    have h1 := hv_hexd (c.toNat / 16) (by have := c.toNat_lt; omega)
    have h2 := hv_hexd (c.toNat % 16) (by omega)
    rw [e]
    constructor
    · rw [unhex, h1, h2, ih.1]
      congr 1
      rw [Int.toNat_natCast, Int.toNat_natCast, show c.toNat / 16 * 16 + c.toNat % 16 = c.toNat by omega]
      exact UInt8.ofNat_toNat
    · unfold isHexL at ih ⊢
      rw [List.all_cons, List.all_cons, h1, h2, ih.2]
      simp
      omega
theorem hexL_unhex : ∀ (n : Nat) (l : List UInt8), l.length = 2 * n → isHexL l = true → hexL (unhex l) = l := by
  intro n
  induction n with
  | zero =>
    intro l h _
    have := List.eq_nil_of_length_eq_zero (by omega : l.length = 0)
    subst this
    rfl
  | succ n ih =>
    intro l h hx
    rcases l with _ | ⟨a, _ | ⟨b, r⟩⟩
    · simp at h
    · simp at h; omega
    · unfold isHexL at hx
      rw [List.all_cons, List.all_cons, Bool.and_eq_true, Bool.and_eq_true] at hx
      obtain ⟨ha, hb, hr⟩ := hx
      simp only [decide_eq_true_eq] at ha hb
      obtain ⟨a1, a2⟩ := hexd_hv a (by omega)
      obtain ⟨b1, b2⟩ := hexd_hv b (by omega)
      rw [unhex]
      have e : ∀ c m, hexL (c :: m) = hexd (c.toNat / 16) :: hexd (c.toNat % 16) :: hexL m := fun _ _ => rfl
      rw [e, ih r (by simp at h; omega) hr]
      have hn : (UInt8.ofNat ((hv a).toNat * 16 + (hv b).toNat)).toNat = (hv a).toNat * 16 + (hv b).toNat := by
        rw [UInt8.toNat_ofNat']; omega
      rw [hn, show ((hv a).toNat * 16 + (hv b).toNat) / 16 = (hv a).toNat by omega, show ((hv a).toNat * 16 + (hv b).toNat) % 16 = (hv b).toNat by omega, a1, b1]
theorem unhex_len : ∀ (n : Nat) (l : List UInt8), l.length = 2 * n → (unhex l).length = n := by
  intro n
  induction n with
  | zero =>
    intro l h
    have := List.eq_nil_of_length_eq_zero (by omega : l.length = 0)
    subst this
    rfl
  | succ n ih =>
    intro l h
    rcases l with _ | ⟨a, _ | ⟨b, r⟩⟩
    · simp at h
    · simp at h; omega
    · rw [unhex, List.length_cons, ih r (by simp at h; omega)]
theorem unhex_append : ∀ (n : Nat) (l : List UInt8) (a b : UInt8), l.length = 2 * n → unhex (l ++ [a, b]) = unhex l ++ [UInt8.ofNat ((hv a).toNat * 16 + (hv b).toNat)] := by
  intro n
  induction n with
  | zero =>
    intro l a b h
    have := List.eq_nil_of_length_eq_zero (by omega : l.length = 0)
    subst this
    rfl
  | succ n ih =>
    intro l a b h
    rcases l with _ | ⟨c, _ | ⟨d, r⟩⟩
    · simp at h
    · simp at h; omega
    · rw [List.cons_append, List.cons_append, unhex, unhex, ih r a b (by simp at h; omega), List.cons_append]
/-- A name of digits; nought, false. -/
def idR (l : List UInt8) : List UInt8 × Bool := if l.length = 64 ∧ isHexL l = true then (unhex l, true) else (List.replicate 32 0, false)
theorem idR_len (l : List UInt8) : (idR l).1.length = 32 := by
  unfold idR
  split
  · rename_i h; exact unhex_len 32 l (by omega)
  · exact List.length_replicate
theorem idR_hexL (a : List UInt8) (hl : (hexL a).length = 64) : idR (hexL a) = (a, true) := by
  unfold idR
  obtain ⟨h1, h2⟩ := unhex_hexL a
  rw [if_pos ⟨hl, h2⟩, h1]
theorem idR_inj {a p : List UInt8} (hok : (idR p).2 = true) : (idR p).1 = a ↔ p = hexL a := by
  unfold idR at hok ⊢
  split at hok
  · rename_i h
    rw [if_pos h]
    constructor
    · intro e
      rw [← e, hexL_unhex 32 p (by omega) h.2]
    · intro e
      rw [e]; exact (unhex_hexL a).1
  · cases hok
/-- The cells of a name while it is read: so many digits are in. -/
def idSt (l : List UInt8) : Nat → List UInt8
  | 0 => List.replicate 32 0
  | k + 1 => (idSt l k).set (k / 2) (UInt8.ofNat (((idSt l k).getD (k / 2) 0).toNat * 16 + (hv (l.getD k 0)).toNat))
theorem idSt_len (l : List UInt8) (k : Nat) : (idSt l k).length = 32 := by
  induction k with
  | zero => exact List.length_replicate
  | succ k ih => rw [idSt, List.length_set, ih]
theorem hv_nn {l : List UInt8} {k : Nat} (hx : isHexL l = true) (h : k < l.length) : 0 ≤ hv (l.getD k 0) ∧ hv (l.getD k 0) < 16 := by
  have e : l.getD k 0 = l[k] := by simp [List.getD_eq_getElem?_getD, h]
  unfold isHexL at hx
  have := List.all_eq_true.1 hx _ (List.getElem_mem h)
  simp only [decide_eq_true_eq] at this
  obtain ⟨_, h2⟩ := hexd_hv l[k] (by omega)
  rw [e]
  omega
theorem idSt_even (l : List UInt8) (hl : l.length = 64) (hx : isHexL l = true) (m : Nat) (hm : m ≤ 32) : idSt l (2 * m) = unhex (l.take (2 * m)) ++ List.replicate (32 - m) 0 := by
  induction m with
  | zero => rfl
  | succ m ih =>
    have ih := ih (by omega)
    have ul : (unhex (l.take (2 * m))).length = m := unhex_len m _ (by rw [List.length_take]; omega)
    have h0 := hv_nn (k := 2 * m) hx (by omega)
    have h1 := hv_nn (k := 2 * m + 1) hx (by omega)
    have er : List.replicate (32 - m) (0 : UInt8) = 0 :: List.replicate (32 - (m + 1)) 0 := by
      rw [show 32 - m = (32 - (m + 1)) + 1 by omega, List.replicate_succ]
    have e1 : idSt l (2 * m + 1) = unhex (l.take (2 * m)) ++ (UInt8.ofNat (hv (l.getD (2 * m) 0)).toNat :: List.replicate (32 - (m + 1)) 0) := by
      rw [idSt, ih, show 2 * m / 2 = m by omega, er]
      rw [List.set_append_right _ _ (by omega), ul, Nat.sub_self, List.set_cons_zero]
      congr 2
      have : (unhex (l.take (2 * m)) ++ 0 :: List.replicate (32 - (m + 1)) (0 : UInt8)).getD m 0 = 0 := by
        rw [List.getD_eq_getElem?_getD, List.getElem?_append_right (by omega), ul, Nat.sub_self]; rfl
      rw [this]; simp
    have et : l.take (2 * (m + 1)) = l.take (2 * m) ++ [l.getD (2 * m) 0, l.getD (2 * m + 1) 0] := by
      rw [show 2 * (m + 1) = 2 * m + 1 + 1 by omega, List.take_succ_eq_append_getElem (by omega), List.take_succ_eq_append_getElem (by omega), List.append_assoc]
      simp [List.getD_eq_getElem?_getD, show 2 * m < l.length by omega, show 2 * m + 1 < l.length by omega]
    rw [show 2 * (m + 1) = (2 * m + 1) + 1 by omega, idSt, e1, show (2 * m + 1) / 2 = m by omega]
    rw [List.set_append_right _ _ (by omega), ul, Nat.sub_self, List.set_cons_zero]
    have : (unhex (l.take (2 * m)) ++ (UInt8.ofNat (hv (l.getD (2 * m) 0)).toNat :: List.replicate (32 - (m + 1)) (0 : UInt8))).getD m 0 = UInt8.ofNat (hv (l.getD (2 * m) 0)).toNat := by
      rw [List.getD_eq_getElem?_getD, List.getElem?_append_right (by omega), ul, Nat.sub_self]; rfl
    rw [this, show 2 * m + 1 + 1 = 2 * (m + 1) by omega, et, unhex_append m _ _ _ (by rw [List.length_take]; omega), List.append_assoc]
    congr 2
    rw [UInt8.toNat_ofNat', Nat.mod_eq_of_lt (by omega)]
theorem idSt_all (l : List UInt8) (hl : l.length = 64) (hx : isHexL l = true) : idSt l 64 = (idR l).1 := by
  have := idSt_even l hl hx 32 (by omega)
  unfold idR
  rw [if_pos ⟨hl, hx⟩]
  rw [show 64 = 2 * 32 by omega, this, List.take_of_length_le (by omega)]
  simp
end Go.Proofs.YtpbnigpdpkfpaaaGreatDoor
namespace Go.Proofs.YtpbnigpdpkfpaaaGreatDoor
open Go.RowKit
/-- The bits, one NaN for all. -/
def fbits (b : Nat) : Nat := bif fnan b then 9221120237041090561 else b
set_option maxHeartbeats 400000 in
theorem bits_any (W : World) (b : Nat) : Calls Tryz.prog 125 #[.float .f64 b] W fun e W' => e = .returned (.int .u64 (fbits b)) ∧ W' = W := by
  have h1 := run_bits
  cases hn : fnan b
  all_goals
    go_enter Tryz.func125, Tryz.ntmps125
    go_wp2_with (go_at_call 184; refine (isnan_any _ b).mono ?_; rintro e w' ⟨he, rfl⟩; rw [hn] at he; subst he)
    go_ret
    exact ⟨by simp [fbits, hn], rfl⟩
/-- A time's digits. -/
def wput (b : Nat) : List UInt8 := bif fmay b then List.replicate (16 - (hexS b).length) 48 ++ hexS b else []
theorem fmay_nan {b : Nat} (h : fmay b = true) : fnan b = false := by
  unfold fmay at h
  cases hn : fnan b
  · rfl
  · rw [hn] at h; cases h
theorem repeatL_one (c : UInt8) (n : Nat) : Lib.repeatL [c] n = List.replicate n c := by
  induction n with
  | zero => rfl
  | succ n ih => rw [Lib.repeatL, ih, List.replicate_succ]; rfl
set_option maxHeartbeats 800000 in
theorem wput_any (W : World) (b : Nat) (hb : b < 18446744073709551616) (hG : Gl W) : Calls Tryz.prog 112 #[.float .f64 b] W fun e W' => e = .returned (.string ⟨(wput b).toArray⟩) ∧ Below W.heap.size W W' := by
  obtain ⟨p, hp⟩ : ∃ p : ByteArray, p = ⟨(wput b).toArray⟩ := ⟨_, rfl⟩
  rw [← hp]
  cases hm : fmay b
  · have h2 : wput b = [] := by unfold wput; rw [hm]; rfl
    have HP := Lib.hid hp
    clear hp hG
    go_enter Tryz.func112, Tryz.ntmps112
    go_wp2_with (go_at_call 133; refine (may_any _ b).mono ?_; rintro e w' ⟨he, rfl⟩; rw [hm] at he; subst he)
    go_ret
    exact ⟨by rw [HP.out, h2]; rfl, Below.refl _ _⟩
  · have hn := fmay_nan hm
    have hl : (hexS b).length ≤ 16 := hexS_len 15 b (by simpa using hb)
    have hl1 := hexS_pos b
    obtain ⟨s, hs⟩ : ∃ s : ByteArray, s = ⟨(hexS b).toArray⟩ := ⟨_, rfl⟩
    have hz : s.size = (hexS b).length := by rw [hs]; exact (ba_size _)
    have s1 : (s.size : Int) ≤ 16 := by omega
    have s0 : (0 : Int) ≤ (s.size : Int) := by omega
    have h2 : wput b = List.replicate (16 - s.size) 48 ++ s.data.toList := by unfold wput; rw [hm, hz, hs]; rfl
    have hbits : (fbits b : Nat) = b := by unfold fbits; rw [hn]; rfl
    have hfu := fuint_16 W b hb hG.deb
    rw [← hs] at hfu
    obtain ⟨m, hmm⟩ : ∃ m : Nat, m = 16 - s.size := ⟨_, rfl⟩
    have hm2 : (16 : Int) - (s.size : Int) = (m : Int) := by omega
    obtain ⟨z, hzz⟩ : ∃ z : ByteArray, z = ⟨(Lib.repeatL [48] m).toArray⟩ := ⟨_, rfl⟩
    have hz2 : z.data.toList = List.replicate m 48 := by rw [hzz]; exact repeatL_one 48 m
    have hz3 : z.size ≤ 16 := by rw [ba_size, hz2]; simp; omega
    have hrep := fun w => Tryz.strings_Repeat ⟨#[48]⟩ m w (by omega) (by have : (ByteArray.mk #[48]).size = 1 := rfl; rw [this]; omega)
    have HP := Lib.hid hp
    have HF := Lib.hid hfu
    have HM := Lib.hid hmm
    have H2 := Lib.hid h2
    have HZ := Lib.hid hz2
    have hrep2 : ∀ w, Calls Tryz.prog 163 #[.string ⟨#[48]⟩, .int .i64 m] w fun e w' => e = .returned (.string z) ∧ Below w.heap.size w w' := by
      intro w; rw [hzz]; exact hrep w
    clear hp hG hfu hmm h2 hz2 hl hl1 hz hs hrep hzz
    go_enter Tryz.func112, Tryz.ntmps112
    go_wp2_with (first
      | (go_at_call 133; refine (may_any _ b).mono ?_; rintro e w' ⟨he, rfl⟩; rw [hm] at he; subst he)
      | (go_at_call 125; refine (bits_any _ b).mono ?_; rintro e w' ⟨he, rfl⟩; rw [hbits] at he; subst he)
      | (go_at_call 162; refine HF.out.mono ?_; rintro e w1 ⟨rfl, hb⟩; have B1 := Lib.hid hb; clear hb)
      | (go_at_call 163; refine (hrep2 _).mono ?_; rintro e w2 ⟨rfl, hb⟩; have B2 := Lib.hid hb; clear hb))
    go_ret
    refine ⟨?_, B1.out.trans (B2.out.mono B1.out.size)⟩
    have e : z ++ s = p := ba_ext (by rw [ba_append, HZ.out, HP.out, H2.out, HM.out])
    rw [← e]
    rfl
end Go.Proofs.YtpbnigpdpkfpaaaGreatDoor
namespace Go.Proofs.YtpbnigpdpkfpaaaGreatDoor
open Go.RowKit
def ten : List UInt8 := [48, 49, 50, 51, 52, 53, 54, 55, 56, 57]
def isdig (c : UInt8) : Bool := decide (48 ≤ c.toNat) && decide (c.toNat ≤ 57)
theorem ten_contains (c : UInt8) : ten.contains c = isdig c := by
  have h : ∀ n : Fin 256, ten.contains (UInt8.ofNat n.val) = isdig (UInt8.ofNat n.val) := by decide +kernel
  have := h ⟨c.toNat, c.toNat_lt⟩
  simpa using this
theorem dropWhile_nil {α : Type} (p : α → Bool) : ∀ l : List α, l.dropWhile p = [] ↔ ∀ x ∈ l, p x = true
  | [] => by simp
  | a :: l => by
    rw [List.dropWhile_cons]
    cases h : p a
    · simp [h]
    · simp [h, dropWhile_nil p l]
theorem dropWhile_head {α : Type} (p : α → Bool) : ∀ l : List α, l.dropWhile p ≠ [] → ∃ x ∈ l.dropWhile p, p x = false
  | [], h => absurd rfl h
  | a :: l, h => by
    rw [List.dropWhile_cons] at h ⊢
    cases hp : p a
    · exact ⟨a, by simp, hp⟩
    · simp only [hp, if_true] at h ⊢
      exact dropWhile_head p l h
theorem trimS_nil (l : List UInt8) : (Lib.trimS l ten).isEmpty = l.all isdig := by
  have e : (fun c => ten.contains c) = isdig := funext ten_contains
  unfold Lib.trimS Lib.trimLeftS Lib.trimRightS
  rw [e]
  cases h : l.all isdig
  · rw [List.isEmpty_eq_false_iff]
    intro hn
    rw [dropWhile_nil] at hn
    have h1 : l.reverse.dropWhile isdig ≠ [] := by
      intro h2
      rw [dropWhile_nil] at h2
      have : l.all isdig = true := List.all_eq_true.2 fun x hx => h2 x (List.mem_reverse.2 hx)
      rw [this] at h; cases h
    obtain ⟨x, hx, hp⟩ := dropWhile_head isdig _ h1
    have := hn x (List.mem_reverse.2 hx)
    rw [hp] at this; cases this
  · have : l.reverse.dropWhile isdig = [] := by
      rw [dropWhile_nil]
      intro x hx
      exact List.all_eq_true.1 h x (List.mem_reverse.1 hx)
    rw [this]; rfl
/-- Some digits, at most so many. -/
def digs (l : List UInt8) (most : Nat) : Bool := decide (1 ≤ l.length) && decide (l.length ≤ most) && l.all isdig
theorem trim_any (W : World) (s : ByteArray) (hs : s.size ≤ 140737488355328) : Calls Tryz.prog 260 #[.string s, .string ⟨#[48, 49, 50, 51, 52, 53, 54, 55, 56, 57]⟩] W fun e W' => e = .returned (.string ⟨(Lib.trimS s.data.toList ten).toArray⟩) ∧ Below W.heap.size W W' :=
  Any.strings_Trim_laid Tryz.lays160 (by kernel_rfl) s ⟨#[48, 49, 50, 51, 52, 53, 54, 55, 56, 57]⟩ W (by omega) (by decide) (by
    intro j b h
    have hm : b ∈ ten := List.mem_of_getElem? h
    have : ∀ x ∈ ten, x.toNat < 128 := by decide
    exact this b hm)
set_option maxRecDepth 100000 in
set_option maxHeartbeats 800000 in
theorem digits_any (W : World) (s : ByteArray) (most : Nat) (hs : s.size ≤ 140737488355328) (_hm : most ≤ 9) : Calls Tryz.prog 219 #[.string s, .int .i64 most] W fun e W' => e = .returned (.bool (digs s.data.toList most)) ∧ Below W.heap.size W W' := by
  obtain ⟨b, hb⟩ : ∃ b, b = digs s.data.toList most := ⟨_, rfl⟩
  rw [← hb]
  have hz := ba_size s
  unfold digs at hb
  rw [← hz, ← trimS_nil] at hb
  have ht := trim_any W s hs
  obtain ⟨t, htt⟩ : ∃ t : ByteArray, t = ⟨(Lib.trimS s.data.toList ten).toArray⟩ := ⟨_, rfl⟩
  have hte : (Lib.trimS s.data.toList ten).isEmpty = t.toList.isEmpty := by rw [ByteArray.toList_eq, htt]
  rw [← htt] at ht
  rw [hte] at hb
  have HB := Lib.hid hb
  have T := Lib.hid ht
  have s0 : (0 : Int) ≤ (s.size : Int) := by omega
  have s1 : (s.size : Int) ≤ 140737488355328 := by omega
  clear hb ht htt hte hz hs
  by_cases h1 : 1 ≤ s.size
  · have d1 : decide ((1 : Int) ≤ (s.size : Int)) = true := by simp; omega
    have d1n : decide (1 ≤ s.size) = true := by simp; omega
    by_cases h2 : s.size ≤ most
    · have d2 : decide ((s.size : Int) ≤ (most : Int)) = true := by simp; omega
      have d2n : decide (s.size ≤ most) = true := by simp; omega
      clear h1 h2 _hm
      go_enter Tryz.func219, Tryz.ntmps219
      go_wp2_with (go_at_call 260; refine T.out.mono ?_; rintro e w' ⟨rfl, hb⟩; have B1 := Lib.hid hb; clear hb)
      go_ret
      exact ⟨by rw [HB.out, d1n, d2n]; rfl, B1.out⟩
    · have d2 : decide ((s.size : Int) ≤ (most : Int)) = false := decide_eq_false (by omega)
      have d2n : decide (s.size ≤ most) = false := decide_eq_false h2
      clear h1 h2 _hm
      go_enter Tryz.func219, Tryz.ntmps219
      go_wp2_with fail
      go_ret
      exact ⟨by rw [HB.out, d1n, d2n]; rfl, Below.refl _ _⟩
  · have d1 : decide ((1 : Int) ≤ (s.size : Int)) = false := decide_eq_false (by omega)
    have d1n : decide (1 ≤ s.size) = false := decide_eq_false h1
    clear h1 _hm
    go_enter Tryz.func219, Tryz.ntmps219
    go_wp2_with fail
    go_ret
    exact ⟨by rw [HB.out, d1n]; rfl, Below.refl _ _⟩
end Go.Proofs.YtpbnigpdpkfpaaaGreatDoor
namespace Go.Proofs.YtpbnigpdpkfpaaaGreatDoor
open Ieee
theorem fabs_eq (b : Nat) (hb : b < 18446744073709551616) : fabs b = frung b := by
  unfold fabs frung
  have := u64_andNot_nat b 9223372036854775808 hb (by omega)
  rw [show ((9223372036854775808 : Nat) : Int) = 9223372036854775808 from rfl] at this
  rw [this, Int.toNat_natCast, show 18446744073709551615 - 9223372036854775808 = 2 ^ 63 - 1 from rfl, Nat.and_two_pow_sub_one_eq_mod]
theorem f64_double : FloatKind.f64.format = double := rfl
theorem frung_lt (b : Nat) : frung b < 9223372036854775808 := Nat.mod_lt _ (by omega)
theorem fkey_zero (b : Nat) : fkey b = 0 ↔ frung b = 0 := by
  unfold fkey; cases fneg b <;> simp
theorem order_self (b : Nat) (h : frung b ≤ finfR) : double.order b b = some .eq := by
  rw [order_key b b h h, Int.compare_eq_eq.mpr rfl]
theorem fnan_true (b : Nat) (h : finfR < frung b) : fnan b = true := by
  unfold fnan; rw [f64_double, order_nan_l b b h]; rfl
theorem fnan_false (b : Nat) (h : frung b ≤ finfR) : fnan b = false := by
  unfold fnan; rw [f64_double, order_self b h]; rfl
theorem order_zero (b : Nat) (h : frung b ≤ finfR) : double.order b 0 = some (compare (fkey b) 0) := by
  rw [order_key b 0 h (by decide), show fkey 0 = 0 from by decide]
theorem fnz_true (b : Nat) (h : frung b ≠ 0) : fnz b = true := by
  unfold fnz
  rw [f64_double]
  rcases Nat.lt_or_ge finfR (frung b) with hn | hn
  · rw [order_nan_l b 0 hn]; rfl
  · rw [order_zero b hn]
    have hk : fkey b ≠ 0 := fun e => h ((fkey_zero b).mp e)
    rcases Int.lt_trichotomy (fkey b) 0 with k | k | k
    · rw [Int.compare_eq_lt.mpr k]; rfl
    · exact absurd k hk
    · rw [Int.compare_eq_gt.mpr k]; rfl
theorem finf_eq (b : Nat) (hb : b < 18446744073709551616) (h : frung b ≤ finfR) : finf b = decide (frung b = finfR) := by
  unfold finf
  have hl := frung_lt b
  have hr : frung (frung b) = frung b := by unfold frung; omega
  have hk : fkey (frung b) = (frung b : Int) := by
    have hn : fneg (frung b) = false := by unfold fneg; rw [Nat.div_eq_of_lt hl]; rfl
    unfold fkey; rw [hn, hr]; rfl
  rw [fabs_eq b hb, f64_double, order_key _ _ (by rw [hr]; exact h) (by decide), hk, show fkey 9218868437227405311 = 9218868437227405311 from by decide]
  unfold finfR at h ⊢
  by_cases he : frung b = 9218868437227405312
  · rw [he, decide_eq_true rfl]; decide
  · rw [decide_eq_false he]
    rcases Int.lt_trichotomy (frung b : Int) 9218868437227405311 with k | k | k
    · rw [Int.compare_eq_lt.mpr k]; rfl
    · rw [Int.compare_eq_eq.mpr k]; rfl
    · omega
theorem fmay_nan' (b : Nat) (h : finfR < frung b) : fmay b = false := by
  unfold fmay; rw [fnan_true b h]; rfl
theorem fmay_inf (b : Nat) (hb : b < 18446744073709551616) (h : frung b = finfR) : fmay b = false := by
  unfold fmay; rw [finf_eq b hb (by omega), decide_eq_true h]; simp
theorem fmay_fin (b : Nat) (hb : b < 18446744073709551616) (h : frung b < finfR) (h0 : frung b ≠ 0) : fmay b = true := by
  unfold fmay; rw [fnan_false b (by omega), finf_eq b hb (by omega), decide_eq_false (by omega), fnz_true b h0]; rfl
theorem fzero (b : Nat) (hb : b < 18446744073709551616) (h : frung b = 0) : b = 0 ∨ b = 9223372036854775808 := by
  unfold frung at h; omega
end Go.Proofs.YtpbnigpdpkfpaaaGreatDoor
namespace Go.Proofs.YtpbnigpdpkfpaaaGreatDoor
open Go.RowKit Ieee
theorem sub_fin (b : Nat) (h : frung b < finfR) : floatBits .sub .f64 b b = some 0 := by
  obtain ⟨m, e, h1, _, _⟩ := read_fin b h
  show double.sub b b = some 0
  unfold Format.sub
  rw [h1]
  simp only [Datum.opposite, Datum.sum]
  have : signed (fneg b) m (e - min e e).toNat + signed (!fneg b) m (e - min e e).toNat = 0 := by
    unfold signed
    cases fneg b <;> simp <;> omega
  rw [if_pos this]
  simp only [this, Int.natAbs_zero, Option.map_some]
  cases fneg b <;> rfl
theorem sub_bad (b : Nat) (h : finfR ≤ frung b) : double.sub b b = none := by
  unfold Format.sub
  rcases Nat.eq_or_lt_of_le h with h | h
  · rw [read_inf b h.symm]
    simp only [Datum.opposite, Datum.sum]
    cases fneg b <;> rfl
  · obtain ⟨n, t, h1⟩ := read_nan b h
    rw [h1]
    rfl
/-- What a float less itself is, that is none: a NaN of some bits. -/
def nanAt (w : World) (b : Nat) : Nat := (Question.nanBits .f64 b b).cut (w.tape w.drawn (.nanBits .f64 b b))
theorem nanAt_rung (w : World) (b : Nat) : finfR < frung (nanAt w b) := by
  unfold nanAt Question.cut finfR frung
  simp only []
  rw [show (2 : Nat) ^ 63 = 9223372036854775808 by decide, show (2 : Nat) ^ 52 = 4503599627370496 by decide]
  generalize w.tape w.drawn (.nanBits .f64 b b) = t
  have h1 : t % 2 = 0 ∨ t % 2 = 1 := by omega
  have h2 : t / 2 % (4503599627370496 - 1) < 4503599627370495 := Nat.mod_lt _ (by omega)
  generalize t / 2 % (4503599627370496 - 1) = r at h2
  rcases h1 with h1 | h1 <;> rw [h1] <;> omega
theorem run_sub_bad {P : Program} (T : TypeId) (b : Nat) (h : finfR ≤ frung b) (w : World) : (binOp .sub T (.float .f64 b) (.float .f64 b)).run P w = .ok (.float .f64 (nanAt w b)) w.drew := by
  have h1 : FloatKind.f64.format.sub b b = none := sub_bad b h
  simp [binOp, Op.floatArith, h1, Question.forced, nanAt]
theorem nan_ne (b : Nat) (h : finfR < frung b) (c : Nat) : (FloatKind.f64.format.order b c == some Ordering.eq) = false ∧ (FloatKind.f64.format.order b c != some Ordering.eq) = true := by
  rw [f64_double, order_nan_l b c h]
  exact ⟨rfl, rfl⟩
theorem run_sub_fin {P : Program} (T : TypeId) (b : Nat) (h : frung b < finfR) (w : World) : (binOp .sub T (.float .f64 b) (.float .f64 b)).run P w = .ok (.float .f64 0) w := run_float_arith w .sub T .f64 b b 0 (sub_fin b h)
theorem run_one_by {P : Program} (T : TypeId) (w : World) : (binOp .quo T (.float .f64 4607182418800017408) (.float .f64 0)).run P w = .ok (.float .f64 9218868437227405312) w ∧ (binOp .quo T (.float .f64 4607182418800017408) (.float .f64 9223372036854775808)).run P w = .ok (.float .f64 18442240474082181120) w :=
  ⟨run_float_arith w .quo T .f64 _ _ _ (by decide +kernel), run_float_arith w .quo T .f64 _ _ _ (by decide +kernel)⟩
theorem zero_facts : (FloatKind.f64.format.order 0 0 == some Ordering.eq) = true ∧ (FloatKind.f64.format.order 0 0 != some Ordering.eq) = false ∧ (FloatKind.f64.format.order 9223372036854775808 0 == some Ordering.eq) = true ∧ (FloatKind.f64.format.order 9223372036854775808 0 != some Ordering.eq) = false ∧
    (FloatKind.f64.format.order 9218868437227405312 0 == some Ordering.gt) = true ∧ (FloatKind.f64.format.order 18442240474082181120 0 == some Ordering.gt) = false ∧ (FloatKind.f64.format.order 9218868437227405312 0 == some Ordering.lt) = false ∧ (FloatKind.f64.format.order 18442240474082181120 0 == some Ordering.lt) = true ∧
    (FloatKind.f64.format.order 9223372036854775808 9223372036854775808 == some Ordering.eq) = true ∧ (FloatKind.f64.format.order 9223372036854775808 9223372036854775808 != some Ordering.eq) = false := by decide +kernel
theorem fmay_zeros : fmay 0 = true ∧ fmay 9223372036854775808 = false := by decide +kernel
theorem order_nz (b : Nat) (h : frung b ≠ 0) : (FloatKind.f64.format.order b 0 == some Ordering.eq) = false ∧ (FloatKind.f64.format.order b 0 != some Ordering.eq) = true := by
  have := fnz_true b h
  unfold fnz at this
  have h2 : (FloatKind.f64.format.order b 0 == some Ordering.eq) = false := by
    simp only [bne, Bool.not_eq_true'] at this
    exact this
  exact ⟨h2, this⟩
set_option maxRecDepth 20000 in
set_option maxHeartbeats 1600000 in
theorem rmay_any (W : World) (b : Nat) (hb : b < 18446744073709551616) : Calls Tryz.prog 129 #[.float .f64 b] W fun e W' => e = .returned (.bool (fmay b)) ∧ ∃ n, W' = W.drewN n := by
  rcases Nat.lt_or_ge finfR (frung b) with hn | hn
  · obtain ⟨e1, e2⟩ := nan_ne b hn b
    rw [fmay_nan' b hn]
    clear hn hb
    go_enter Tryz.func129, Tryz.ntmps129
    go_wp2
    go_ret
    exact ⟨rfl, 0, rfl⟩
  have e1 : (FloatKind.f64.format.order b b == some Ordering.eq) = true := by rw [f64_double, order_self b hn]; rfl
  rcases Nat.eq_or_lt_of_le hn with hi | hi
  · have hs := fun w => run_sub_bad (P := Tryz.prog) 26 b (Nat.le_of_eq hi.symm) w
    have ho := fun w => (nan_ne _ (nanAt_rung w b) 0).1
    rw [fmay_inf b hb hi]
    clear hn hb hi
    go_enter Tryz.func129, Tryz.ntmps129
    go_wp2
    go_ret
    exact ⟨rfl, 1, rfl⟩
  have hs := fun w => run_sub_fin (P := Tryz.prog) 26 b hi w
  obtain ⟨q1, q2, q3, q4, q5, q6, q7, q8, q9, q10⟩ := zero_facts
  have r1 := fun w => (run_one_by (P := Tryz.prog) 26 w).1
  have r2 := fun w => (run_one_by (P := Tryz.prog) 26 w).2
  by_cases h0 : frung b = 0
  · obtain ⟨f1, f2⟩ := fmay_zeros
    rcases fzero b hb h0 with rfl | rfl
    · rw [f1]
      clear hn hb hi h0 f1 f2
      go_enter Tryz.func129, Tryz.ntmps129
      go_wp2
      go_ret
      exact ⟨rfl, 0, rfl⟩
    · rw [f2]
      clear hn hb hi h0 f1 f2
      go_enter Tryz.func129, Tryz.ntmps129
      go_wp2
      go_ret
      exact ⟨rfl, 0, rfl⟩
  · obtain ⟨z1, z2⟩ := order_nz b h0
    rw [fmay_fin b hb hi h0]
    clear hn hb hi h0
    go_enter Tryz.func129, Tryz.ntmps129
    go_wp2
    go_ret
    exact ⟨rfl, 0, rfl⟩
set_option maxHeartbeats 1600000 in
theorem rbits_any (W : World) (b : Nat) : Calls Tryz.prog 126 #[.float .f64 b] W fun e W' => e = .returned (.int .u64 (fbits b)) ∧ W' = W := by
  have h1 := run_bits
  rcases Nat.lt_or_ge finfR (frung b) with hn | hn
  · obtain ⟨e1, e2⟩ := nan_ne b hn b
    unfold fbits
    rw [fnan_true b hn]
    clear hn
    go_enter Tryz.func126, Tryz.ntmps126
    go_wp2
    go_ret
    exact ⟨rfl, rfl⟩
  · have e1 : (FloatKind.f64.format.order b b != some Ordering.eq) = false := by rw [f64_double, order_self b hn]; rfl
    unfold fbits
    rw [fnan_false b hn]
    clear hn
    go_enter Tryz.func126, Tryz.ntmps126
    go_wp2
    go_ret
    exact ⟨rfl, rfl⟩
end Go.Proofs.YtpbnigpdpkfpaaaGreatDoor
