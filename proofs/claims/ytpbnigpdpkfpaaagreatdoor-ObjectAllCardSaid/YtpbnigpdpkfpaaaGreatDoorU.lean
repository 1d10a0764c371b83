/- SHA-256 over lists of bytes, in plain Lean. Words of 32 bits, and bytes, as the model's integers: the operations on them, as operations of BitVec 32. SHA-256: the end of a text, the digest. Plain Lean. -/
import Derived.Test.YtpbnigpdpkfpaaaGreatDoorProg
import Derived.WalkKit
import Derived.WalkSpells
import Derived.WalkLawsBesides
namespace Go.Proofs.YtpbnigpdpkfpaaaGreatDoor
/-- To the right, round. -/
def rotr (x : BitVec 32) (n : Nat) : BitVec 32 := (x <<< (32 - n)) ||| (x >>> n)
theorem turn_sum (x : BitVec 32) (n : Nat) (h0 : 0 < n) (h1 : n < 32) : x >>> n + x <<< (32 - n) = rotr x n := by
  unfold rotr
  rw [BitVec.add_comm]
  apply BitVec.add_eq_or_of_and_eq_zero
  apply BitVec.eq_of_getLsbD_eq
  intro i hi
  by_cases h : i < 32 - n
  · simp [h]
  · have : x.getLsbD (n + i) = false := BitVec.getLsbD_of_ge _ _ (by omega)
    simp [this]
/-- Byte i of a list; word i of a list. -/
def gb (bs : List UInt8) (i : Nat) : UInt8 := bs.getD i 0
def gw (l : List (BitVec 32)) (i : Nat) : BitVec 32 := l.getD i 0
def byteW (b : UInt8) : BitVec 32 := b.toBitVec.setWidth 32
/-- The first j bytes of word t of a block. -/
def part (bs : List UInt8) (t : Nat) : Nat → BitVec 32
  | 0 => 0
  | j + 1 => part bs t j <<< 8 ||| byteW (gb bs (4 * t + j))
def sig0 (x : BitVec 32) : BitVec 32 := rotr x 7 ^^^ rotr x 18 ^^^ x >>> 3
def sig1 (x : BitVec 32) : BitVec 32 := rotr x 17 ^^^ rotr x 19 ^^^ x >>> 10
def next (bs : List UInt8) (l : List (BitVec 32)) (n : Nat) : BitVec 32 :=
  if n < 16 then part bs n 4 else sig1 (gw l (n - 2)) + gw l (n - 7) + sig0 (gw l (n - 15)) + gw l (n - 16)
/-- The first n words of a block. -/
def wl (bs : List UInt8) : Nat → List (BitVec 32)
  | 0 => []
  | n + 1 => wl bs n ++ [next bs (wl bs n) n]
@[simp] theorem wl_length (bs : List UInt8) (n : Nat) : (wl bs n).length = n := by induction n with
  | zero => rfl
  | succ n ih => simp [wl, ih]
/-- The array while it is filled. -/
def wfill (bs : List UInt8) (k : Nat) : List (BitVec 32) := wl bs k ++ List.replicate (64 - k) 0
@[simp] theorem wfill_length (bs : List UInt8) (k : Nat) (h : k ≤ 64) : (wfill bs k).length = 64 := by simp [wfill]; omega
theorem wfill_set (bs : List UInt8) (k : Nat) (h : k < 64) : (wfill bs k).set k (next bs (wl bs k) k) = wfill bs (k + 1) := by
  have e : 64 - k = (64 - (k + 1)) + 1 := by omega
  simp [wfill, wl, e, List.replicate_succ]
theorem wfill_old (bs : List UInt8) (k i : Nat) (h : i < k) : gw (wfill bs k) i = gw (wl bs k) i := by
  simp [gw, wfill, List.getD_eq_getElem?_getD, List.getElem?_append_left (show i < (wl bs k).length by simpa using h)]
theorem wfill_new (bs : List UInt8) (k : Nat) (h : k < 64) : gw (wfill bs k) k = 0 := by
  have e : 64 - k = (64 - (k + 1)) + 1 := by omega
  simp [gw, wfill, e, List.replicate_succ, List.getD_eq_getElem?_getD]
theorem wfill_set0 (bs : List UInt8) (k : Nat) (h : k < 64) : (wfill bs k).set k 0 = wfill bs k := by
  have e : 64 - k = (64 - (k + 1)) + 1 := by omega
  simp [wfill, e, List.replicate_succ]
theorem wfill_set16 (bs : List UInt8) (k : Nat) (h : k < 16) : (wfill bs k).set k (part bs k 4) = wfill bs (k + 1) := by
  rw [← wfill_set bs k (by omega), next, if_pos h]
theorem wfill_part (bs : List UInt8) (k _j : Nat) (x : BitVec 32) (h : k < 64) : gw ((wfill bs k).set k x) k = x := by
  simp [gw, List.getD_eq_getElem?_getD, wfill_length bs k (by omega), h]
theorem wfill_zero (bs : List UInt8) : wfill bs 0 = List.replicate 64 0 := by simp [wfill, wl]
theorem wfill_all (bs : List UInt8) : wfill bs 64 = wl bs 64 := by simp [wfill]
/-- What is added in each round. -/
def ks : List (BitVec 32) := [
  0x428a2f98#32, 0x71374491#32, 0xb5c0fbcf#32, 0xe9b5dba5#32, 0x3956c25b#32, 0x59f111f1#32, 0x923f82a4#32, 0xab1c5ed5#32,
  0xd807aa98#32, 0x12835b01#32, 0x243185be#32, 0x550c7dc3#32, 0x72be5d74#32, 0x80deb1fe#32, 0x9bdc06a7#32, 0xc19bf174#32,
  0xe49b69c1#32, 0xefbe4786#32, 0x0fc19dc6#32, 0x240ca1cc#32, 0x2de92c6f#32, 0x4a7484aa#32, 0x5cb0a9dc#32, 0x76f988da#32,
  0x983e5152#32, 0xa831c66d#32, 0xb00327c8#32, 0xbf597fc7#32, 0xc6e00bf3#32, 0xd5a79147#32, 0x06ca6351#32, 0x14292967#32,
  0x27b70a85#32, 0x2e1b2138#32, 0x4d2c6dfc#32, 0x53380d13#32, 0x650a7354#32, 0x766a0abb#32, 0x81c2c92e#32, 0x92722c85#32,
  0xa2bfe8a1#32, 0xa81a664b#32, 0xc24b8b70#32, 0xc76c51a3#32, 0xd192e819#32, 0xd6990624#32, 0xf40e3585#32, 0x106aa070#32,
  0x19a4c116#32, 0x1e376c08#32, 0x2748774c#32, 0x34b0bcb5#32, 0x391c0cb3#32, 0x4ed8aa4a#32, 0x5b9cca4f#32, 0x682e6ff3#32,
  0x748f82ee#32, 0x78a5636f#32, 0x84c87814#32, 0x8cc70208#32, 0x90befffa#32, 0xa4506ceb#32, 0xbef9a3f7#32, 0xc67178f2#32]
def h0s : List (BitVec 32) := [0x6a09e667#32, 0xbb67ae85#32, 0x3c6ef372#32, 0xa54ff53a#32, 0x510e527f#32, 0x9b05688c#32, 0x1f83d9ab#32, 0x5be0cd19#32]
/-- The eight words in a round. -/
structure St where
  (a b c d e f g h : BitVec 32)
def bsig1 (e : BitVec 32) : BitVec 32 := rotr e 6 ^^^ rotr e 11 ^^^ rotr e 25
def bsig0 (a : BitVec 32) : BitVec 32 := rotr a 2 ^^^ rotr a 13 ^^^ rotr a 22
def t1of (s : St) (k w : BitVec 32) : BitVec 32 := s.h + bsig1 s.e + (s.e &&& s.f ^^^ ~~~ s.e &&& s.g) + k + w
def t2of (s : St) : BitVec 32 := bsig0 s.a + (s.a &&& s.b ^^^ s.a &&& s.c ^^^ s.b &&& s.c)
def round1 (s : St) (k w : BitVec 32) : St := ⟨t1of s k w + t2of s, s.a, s.b, s.c, s.d + t1of s k w, s.e, s.f, s.g⟩
def rounds (ws : List (BitVec 32)) (s : St) : Nat → St
  | 0 => s
  | n + 1 => round1 (rounds ws s n) (gw ks n) (gw ws n)
def St.list (s : St) : List (BitVec 32) := [s.a, s.b, s.c, s.d, s.e, s.f, s.g, s.h]
def St.add (s t : St) : St := ⟨s.a + t.a, s.b + t.b, s.c + t.c, s.d + t.d, s.e + t.e, s.f + t.f, s.g + t.g, s.h + t.h⟩
def st0 : St := ⟨0x6a09e667#32, 0xbb67ae85#32, 0x3c6ef372#32, 0xa54ff53a#32, 0x510e527f#32, 0x9b05688c#32, 0x1f83d9ab#32, 0x5be0cd19#32⟩
/-- One block more. -/
def mix (s : St) (bs : List UInt8) : St := s.add (rounds (wl bs 64) s 64)
/-- The sums while they are laid, one by one. -/
def mixk (s r : St) (k : Nat) : List (BitVec 32) := (s.add r).list.take k ++ s.list.drop k
theorem mixk_set (s r : St) (k : Nat) (h : k < 8) : (mixk s r k).set k (gw s.list k + gw r.list k) = mixk s r (k + 1) := by
  match k, h with
  | 0, _ => rfl
  | 1, _ => rfl
  | 2, _ => rfl
  | 3, _ => rfl
  | 4, _ => rfl
  | 5, _ => rfl
  | 6, _ => rfl
  | 7, _ => rfl
theorem mixk_at (s r : St) (k : Nat) (h : k < 8) : gw (mixk s r k) k = gw s.list k := by
  match k, h with
  | 0, _ => rfl
  | 1, _ => rfl
  | 2, _ => rfl
  | 3, _ => rfl
  | 4, _ => rfl
  | 5, _ => rfl
  | 6, _ => rfl
  | 7, _ => rfl
theorem mixk_length (s r : St) (k : Nat) (h : k ≤ 8) : (mixk s r k).length = 8 := by
  simp [mixk, St.list]; omega
theorem mixk_all (s r : St) : mixk s r 8 = (s.add r).list := rfl
theorem mixk_zero (s r : St) : mixk s r 0 = s.list := rfl
theorem ch_bool (x y z : Bool) : (x && y || !x && z) = (x && y ^^ !x && z) := by cases x <;> cases y <;> cases z <;> rfl
theorem maj_bool (x y z : Bool) : (x && y || x && z || y && z) = (x && y ^^ x && z ^^ y && z) := by cases x <;> cases y <;> cases z <;> rfl
theorem not_sub (e : BitVec 32) : 0xffffffff#32 - e = ~~~ e := BitVec.allOnes_sub_eq_not e
theorem ch_eq (e f g : BitVec 32) : (e &&& f ||| (0xffffffff#32 - e) &&& g) = (e &&& f ^^^ ~~~ e &&& g) := by
  rw [not_sub]
  apply BitVec.eq_of_getElem_eq
  intro i hi
  simp only [BitVec.getElem_or, BitVec.getElem_and, BitVec.getElem_not, BitVec.getElem_xor]
  exact ch_bool _ _ _
theorem maj_eq (a b c : BitVec 32) : (a &&& b ||| a &&& c ||| b &&& c) = (a &&& b ^^^ a &&& c ^^^ b &&& c) := by
  apply BitVec.eq_of_getElem_eq
  intro i hi
  simp only [BitVec.getElem_or, BitVec.getElem_and, BitVec.getElem_xor]
  exact maj_bool _ _ _
/-- All whole blocks are mixed in; what is left. -/
def absorb (s : St) (rs : List UInt8) : St × List UInt8 :=
  if _h : rs.length < 64 then (s, rs) else absorb (mix s (rs.take 64)) (rs.drop 64)
termination_by rs.length
decreasing_by simp; omega
theorem absorb_short (s : St) (rs : List UInt8) (h : rs.length < 64) : absorb s rs = (s, rs) := by rw [absorb, dif_pos h]
theorem absorb_long (s : St) (rs : List UInt8) (h : 64 ≤ rs.length) : absorb s rs = absorb (mix s (rs.take 64)) (rs.drop 64) := by
  rw [absorb, dif_neg (by omega)]
/-- Absorbing in two parts. -/
theorem absorb_append (s : St) (rs bs : List UInt8) : absorb s (rs ++ bs) = absorb (absorb s rs).1 ((absorb s rs).2 ++ bs) := by
  by_cases h : rs.length < 64
  · rw [absorb_short s rs h]
  · have e1 : (rs ++ bs).take 64 = rs.take 64 := by rw [List.take_append_of_le_length (by omega)]
    have e2 : (rs ++ bs).drop 64 = rs.drop 64 ++ bs := by rw [List.drop_append_of_le_length (by omega)]
    rw [absorb_long s (rs ++ bs) (by simp; omega), absorb_long s rs (by omega), e1, e2]
    exact absorb_append (mix s (rs.take 64)) (rs.drop 64) bs
termination_by rs.length
decreasing_by simp; omega
end Go.Proofs.YtpbnigpdpkfpaaaGreatDoor
namespace Go.Proofs.YtpbnigpdpkfpaaaGreatDoor
open Go.RowKit
/-- A word as an integer; a byte as one: names that simp does not look into. -/
def un (x : BitVec 32) : Int := (x.toNat : Int)
def ub (b : UInt8) : Int := (b.toNat : Int)
theorem un_nonneg (x : BitVec 32) : 0 ≤ un x := Int.natCast_nonneg _
theorem un_lt (x : BitVec 32) : un x < 4294967296 := by have := x.isLt; unfold un; omega
theorem ub_nonneg (x : UInt8) : 0 ≤ ub x := Int.natCast_nonneg _
theorem ub_lt (x : UInt8) : ub x < 256 := by have := x.toNat_lt; unfold ub; omega
theorem ub_inj {x y : UInt8} (h : ub x = ub y) : x = y := by
  apply UInt8.toNat_inj.1
  unfold ub at h
  omega
theorem u32_wrap_nat (n : Nat) : IntKind.u32.wrap (n : Int) = ((n % 2 ^ 32 : Nat) : Int) := by
  simp [IntKind.wrap, IntKind.bits, IntKind.signed]
theorem u32_wrap_bv (x : BitVec 32) : IntKind.u32.wrap (x.toNat : Int) = (x.toNat : Int) := by
  rw [u32_wrap_nat, Nat.mod_eq_of_lt x.isLt]
theorem bv_ofInt_toNat (x : BitVec 32) : BitVec.ofInt IntKind.u32.bits (x.toNat : Int) = x := by
  show BitVec.ofInt 32 (x.toNat : Int) = x
  apply BitVec.eq_of_toNat_eq
  simp
theorem un_add (x y : BitVec 32) : IntKind.u32.wrap (un x + un y) = un (x + y) := by
  unfold un
  rw [← Int.natCast_add, u32_wrap_nat, BitVec.toNat_add]
theorem un_and (x y : BitVec 32) : bits .and .u32 (un x) (un y) = un (x &&& y) := by
  show IntKind.u32.wrap ((BitVec.ofInt IntKind.u32.bits (x.toNat : Int) &&& BitVec.ofInt IntKind.u32.bits (y.toNat : Int)).toNat : Int) = _
  rw [bv_ofInt_toNat, bv_ofInt_toNat]
  exact u32_wrap_bv (x &&& y)
theorem un_or (x y : BitVec 32) : bits .or .u32 (un x) (un y) = un (x ||| y) := by
  show IntKind.u32.wrap ((BitVec.ofInt IntKind.u32.bits (x.toNat : Int) ||| BitVec.ofInt IntKind.u32.bits (y.toNat : Int)).toNat : Int) = _
  rw [bv_ofInt_toNat, bv_ofInt_toNat]
  exact u32_wrap_bv (x ||| y)
theorem un_xor (x y : BitVec 32) : bits .xor .u32 (un x) (un y) = un (x ^^^ y) := by
  show IntKind.u32.wrap ((BitVec.ofInt IntKind.u32.bits (x.toNat : Int) ^^^ BitVec.ofInt IntKind.u32.bits (y.toNat : Int)).toNat : Int) = _
  rw [bv_ofInt_toNat, bv_ofInt_toNat]
  exact u32_wrap_bv (x ^^^ y)
theorem un_not (x : BitVec 32) : bits .xor .u32 4294967295 (un x) = un (~~~ x) := by
  have e : BitVec.ofInt 32 (x.toNat : Int) = x := bv_ofInt_toNat x
  have h : IntKind.u32.wrap (((BitVec.ofInt 32 4294967295) ^^^ BitVec.ofInt 32 (x.toNat : Int)).toNat : Int) = ((~~~ x).toNat : Int) := by
    rw [e, show BitVec.ofInt 32 4294967295 = BitVec.allOnes 32 from by decide, BitVec.allOnes_xor, u32_wrap_bv]
  exact h
theorem un_not' (x : BitVec 32) : bits .xor .u32 (if IntKind.u32.signed = true then -1 else IntKind.u32.max) (un x) = un (~~~ x) := un_not x
theorem un_shl (x : BitVec 32) (n : Nat) : IntKind.u32.wrap (un x * 2 ^ n) = un (x <<< n) := by
  unfold un
  rw [show ((x.toNat : Int) * 2 ^ n) = ((x.toNat * 2 ^ n : Nat) : Int) from by rw [Int.natCast_mul, Int.natCast_pow]; rfl, u32_wrap_nat, BitVec.toNat_shiftLeft, Nat.shiftLeft_eq]
theorem un_shr (x : BitVec 32) (n : Nat) : un x / 2 ^ n = un (x >>> n) := by
  unfold un
  rw [BitVec.toNat_ushiftRight, Nat.shiftRight_eq_div_pow, Int.natCast_ediv, Int.natCast_pow]; rfl
theorem u32_wrap_mod (z : Int) : IntKind.u32.wrap z = z % 4294967296 := by simp [IntKind.wrap, IntKind.bits, IntKind.signed]
theorem un_addm (x y : BitVec 32) : (un x + un y) % 4294967296 = un (x + y) := by rw [← u32_wrap_mod, un_add]
theorem un_shlm (x : BitVec 32) (n : Nat) : un x * 2 ^ n % 4294967296 = un (x <<< n) := by rw [← u32_wrap_mod, un_shl]
theorem un_shl8m (x : BitVec 32) : un x * 256 % 4294967296 = un (x <<< 8) := un_shlm x 8
theorem un_mod (x : BitVec 32) : un x % 4294967296 = un x := by have := un_nonneg x; have := un_lt x; omega
theorem ub_mod (x : UInt8) : ub x % 4294967296 = un (byteW x) := by
  show ((x.toNat : Int)) % 4294967296 = (((x.toBitVec.setWidth 32).toNat : Nat) : Int)
  rw [BitVec.toNat_setWidth]
  rfl
theorem un_shl8 (x : BitVec 32) : IntKind.u32.wrap (un x * 256) = un (x <<< 8) := un_shl x 8
theorem un_shr3 (x : BitVec 32) : un x / (8 : Int) = un (x >>> 3) := un_shr x 3
theorem un_shr10 (x : BitVec 32) : un x / (1024 : Int) = un (x >>> 10) := un_shr x 10
theorem un_shr24 (x : BitVec 32) : un x / (16777216 : Int) = un (x >>> 24) := un_shr x 24
theorem un_shr16 (x : BitVec 32) : un x / (65536 : Int) = un (x >>> 16) := un_shr x 16
theorem un_shr8 (x : BitVec 32) : un x / (256 : Int) = un (x >>> 8) := un_shr x 8
/-- A byte made a word; a word's lowest byte. -/
theorem un_of_byte (b : UInt8) : IntKind.u32.wrap (ub b) = un (byteW b) := by
  unfold ub un byteW
  rw [u32_wrap_nat, BitVec.toNat_setWidth]
  rfl
def loB (x : BitVec 32) : UInt8 := UInt8.ofBitVec (x.setWidth 8)
theorem ub_of_word (x : BitVec 32) : IntKind.u8.wrap (un x) = ub (loB x) := by
  unfold ub un loB
  simp [IntKind.wrap, IntKind.bits, IntKind.signed, UInt8.toNat]
theorem un_mod256 (x : BitVec 32) : un x % 256 = ub (loB x) := by
  rw [← ub_of_word]; simp [IntKind.wrap, IntKind.bits, IntKind.signed]
theorem un_sum4 (a b c d : BitVec 32) : (un a + un b + un c + un d) % 4294967296 = un (a + b + c + d) := by
  rw [← un_addm, ← un_addm, ← un_addm]; omega
/-- Words as cells; bytes as cells. -/
def Us (l : List (BitVec 32)) : List Value := l.map fun x => .int .u32 (un x)
def Bs (l : List UInt8) : List Value := l.map fun x => .int .u8 (ub x)
theorem Us_at (l : List (BitVec 32)) (j : Nat) (h : j < l.length) : (Us l)[j]? = some (.int .u32 (un (gw l j))) := by
  simp [Us, gw, List.getD_eq_getElem?_getD, List.getElem?_eq_getElem h]
theorem Us_set (l : List (BitVec 32)) (j : Nat) (x : BitVec 32) : (Us l).set j (.int .u32 (un x)) = Us (l.set j x) := by
  simp [Us, List.map_set]
theorem Bs_at (l : List UInt8) (j : Nat) (h : j < l.length) : (Bs l)[j]? = some (.int .u8 (ub (gb l j))) := by
  simp [Bs, gb, List.getD_eq_getElem?_getD, List.getElem?_eq_getElem h]
theorem Bs_set (l : List UInt8) (j : Nat) (x : UInt8) : (Bs l).set j (.int .u8 (ub x)) = Bs (l.set j x) := by
  simp [Bs, List.map_set]
@[simp] theorem Us_length (l : List (BitVec 32)) : (Us l).length = l.length := by simp [Us]
@[simp] theorem Bs_length (l : List UInt8) : (Bs l).length = l.length := by simp [Bs]
theorem Bs_append (l m : List UInt8) : Bs (l ++ m) = Bs l ++ Bs m := by simp [Bs]
end Go.Proofs.YtpbnigpdpkfpaaaGreatDoor
namespace Go.Proofs.YtpbnigpdpkfpaaaGreatDoor
/-- How many noughts stand behind the 0x80, l bytes with it. -/
def padz (l : Nat) : Nat := (120 - l % 64) % 64
theorem padz_mod (l : Nat) : (l + padz l) % 64 = 56 := by unfold padz; omega
theorem padz_lt (l : Nat) : padz l < 64 := by unfold padz; omega
theorem padz_of_mod {l k : Nat} (hk : k ≤ padz l) (h : (l + k) % 64 = 56) : k = padz l := by
  unfold padz at *; omega
/-- A length's byte, so many bits from the right. -/
def lenB (n sh : Nat) : UInt8 := UInt8.ofNat (8 * n / 2 ^ sh)
def len8 (n : Nat) : List UInt8 := [lenB n 56, lenB n 48, lenB n 40, lenB n 32, lenB n 24, lenB n 16, lenB n 8, lenB n 0]
@[simp] theorem len8_length (n : Nat) : (len8 n).length = 8 := rfl
def word4 (x : BitVec 32) : List UInt8 := [loB (x >>> 24), loB (x >>> 16), loB (x >>> 8), loB x]
def outB (s : St) : List UInt8 := word4 s.a ++ word4 s.b ++ word4 s.c ++ word4 s.d ++ word4 s.e ++ word4 s.f ++ word4 s.g ++ word4 s.h
@[simp] theorem outB_length (s : St) : (outB s).length = 32 := rfl
/-- All that stands behind what is left. -/
def tailB (l n : Nat) : List UInt8 := 128 :: List.replicate (padz (l + 1)) 0 ++ len8 n
def digest (s : St) (rs : List UInt8) (n : Nat) : List UInt8 := outB (absorb s (rs ++ tailB rs.length n)).1
@[simp] theorem digest_length (s : St) (rs : List UInt8) (n : Nat) : (digest s rs n).length = 32 := rfl
/-- The hash of a text. -/
def sha256 (bs : List UInt8) : List UInt8 := digest st0 bs bs.length
theorem absorb_mod (s : St) (rs : List UInt8) : (absorb s rs).2.length = rs.length % 64 := by
  by_cases h : rs.length < 64
  · rw [absorb_short s rs h]; simp only; omega
  · rw [absorb_long s rs (by omega), absorb_mod (mix s (rs.take 64)) (rs.drop 64)]
    simp; omega
termination_by rs.length
decreasing_by simp; omega
theorem padz_mod64 {l k : Nat} (h : l % 64 = k % 64) : padz l = padz k := by unfold padz; rw [h]
/-- Of what was absorbed and what is left the digest is the text's hash. -/
theorem digest_absorb (bs : List UInt8) : digest (absorb st0 bs).1 (absorb st0 bs).2 bs.length = sha256 bs := by
  have hm := absorb_mod st0 bs
  have ht : tailB (absorb st0 bs).2.length bs.length = tailB bs.length bs.length := by
    unfold tailB
    rw [padz_mod64 (l := (absorb st0 bs).2.length + 1) (k := bs.length + 1) (by omega)]
  unfold sha256 digest
  rw [ht, ← absorb_append]
end Go.Proofs.YtpbnigpdpkfpaaaGreatDoor
