/- Words of 32 bits, and bytes, as the model's integers: the operations on them, as operations of BitVec 32. -/
import Derived.Test.YtpfoohfgochaiaaGreatDoorProg
import Derived.Test.YtpfoohfgochaiaaGreatDoorShaSpec
import Derived.WalkKit
import Derived.WalkSpells
import Derived.WalkLawsBesides
namespace Go.Proofs.YtpfoohfgochaiaaGreatDoor
open Go.RowKit
/-- A word as an integer; a byte as one: names that simp does not look into. -/
def un (x : BitVec 32) : Int := (x.toNat : Int)
def ub (b : UInt8) : Int := (b.toNat : Int)
theorem un_nonneg (x : BitVec 32) : 0 ≤ un x := Int.natCast_nonneg _
theorem un_lt (x : BitVec 32) : un x < 4294967296 := by have := x.isLt; unfold un; omega
theorem ub_nonneg (x : UInt8) : 0 ≤ ub x := Int.natCast_nonneg _
theorem ub_lt (x : UInt8) : ub x < 256 := by have := x.toNat_lt; unfold ub; omega
theorem un_inj {x y : BitVec 32} (h : un x = un y) : x = y := by
  apply BitVec.eq_of_toNat_eq
  unfold un at h
  omega
theorem ub_inj {x y : UInt8} (h : ub x = ub y) : x = y := by
  apply UInt8.toNat_inj.1
  unfold ub at h
  omega
theorem u32_wrap_nat (n : Nat) : IntKind.u32.wrap (n : Int) = ((n % 2 ^ 32 : Nat) : Int) := by
  simp [IntKind.wrap, IntKind.bits, IntKind.signed]
theorem u32_wrap_bv (x : BitVec 32) : IntKind.u32.wrap (x.toNat : Int) = (x.toNat : Int) := by
  rw [u32_wrap_nat, Nat.mod_eq_of_lt x.isLt]
theorem bv_ofInt_toNat (x : BitVec 32) : BitVec.ofInt IntKind.u32.bits (x.toNat : Int) = x := by
  show BitVec.ofInt 32 (x.toNat : Int) = x
  apply BitVec.eq_of_toNat_eq
  simp
theorem un_add (x y : BitVec 32) : IntKind.u32.wrap (un x + un y) = un (x + y) := by
  unfold un
  rw [← Int.natCast_add, u32_wrap_nat, BitVec.toNat_add]
theorem un_and (x y : BitVec 32) : bits .and .u32 (un x) (un y) = un (x &&& y) := by
  show IntKind.u32.wrap ((BitVec.ofInt IntKind.u32.bits (x.toNat : Int) &&& BitVec.ofInt IntKind.u32.bits (y.toNat : Int)).toNat : Int) = _
  rw [bv_ofInt_toNat, bv_ofInt_toNat]
  exact u32_wrap_bv (x &&& y)
theorem un_or (x y : BitVec 32) : bits .or .u32 (un x) (un y) = un (x ||| y) := by
  show IntKind.u32.wrap ((BitVec.ofInt IntKind.u32.bits (x.toNat : Int) ||| BitVec.ofInt IntKind.u32.bits (y.toNat : Int)).toNat : Int) = _
  rw [bv_ofInt_toNat, bv_ofInt_toNat]
  exact u32_wrap_bv (x ||| y)
theorem un_xor (x y : BitVec 32) : bits .xor .u32 (un x) (un y) = un (x ^^^ y) := by
  show IntKind.u32.wrap ((BitVec.ofInt IntKind.u32.bits (x.toNat : Int) ^^^ BitVec.ofInt IntKind.u32.bits (y.toNat : Int)).toNat : Int) = _
  rw [bv_ofInt_toNat, bv_ofInt_toNat]
  exact u32_wrap_bv (x ^^^ y)
theorem un_not (x : BitVec 32) : bits .xor .u32 4294967295 (un x) = un (~~~ x) := by
  have e : BitVec.ofInt 32 (x.toNat : Int) = x := bv_ofInt_toNat x
  have h : IntKind.u32.wrap (((BitVec.ofInt 32 4294967295) ^^^ BitVec.ofInt 32 (x.toNat : Int)).toNat : Int) = ((~~~ x).toNat : Int) := by
    rw [e, show BitVec.ofInt 32 4294967295 = BitVec.allOnes 32 from by decide, BitVec.allOnes_xor, u32_wrap_bv]
  exact h
theorem un_not' (x : BitVec 32) : bits .xor .u32 (if IntKind.u32.signed = true then -1 else IntKind.u32.max) (un x) = un (~~~ x) := un_not x
theorem un_shl (x : BitVec 32) (n : Nat) : IntKind.u32.wrap (un x * 2 ^ n) = un (x <<< n) := by
  unfold un
  rw [show ((x.toNat : Int) * 2 ^ n) = ((x.toNat * 2 ^ n : Nat) : Int) from by rw [Int.natCast_mul, Int.natCast_pow]; rfl, u32_wrap_nat, BitVec.toNat_shiftLeft, Nat.shiftLeft_eq]
theorem un_shr (x : BitVec 32) (n : Nat) : un x / 2 ^ n = un (x >>> n) := by
  unfold un
  rw [BitVec.toNat_ushiftRight, Nat.shiftRight_eq_div_pow, Int.natCast_ediv, Int.natCast_pow]; rfl
theorem u32_wrap_mod (z : Int) : IntKind.u32.wrap z = z % 4294967296 := by simp [IntKind.wrap, IntKind.bits, IntKind.signed]
theorem un_addm (x y : BitVec 32) : (un x + un y) % 4294967296 = un (x + y) := by rw [← u32_wrap_mod, un_add]
theorem un_shlm (x : BitVec 32) (n : Nat) : un x * 2 ^ n % 4294967296 = un (x <<< n) := by rw [← u32_wrap_mod, un_shl]
theorem un_shl8m (x : BitVec 32) : un x * 256 % 4294967296 = un (x <<< 8) := un_shlm x 8
theorem un_mod (x : BitVec 32) : un x % 4294967296 = un x := by have := un_nonneg x; have := un_lt x; omega
theorem ub_mod (x : UInt8) : ub x % 4294967296 = un (byteW x) := by
  show ((x.toNat : Int)) % 4294967296 = (((x.toBitVec.setWidth 32).toNat : Nat) : Int)
  rw [BitVec.toNat_setWidth]
  rfl
theorem un_shl8 (x : BitVec 32) : IntKind.u32.wrap (un x * 256) = un (x <<< 8) := un_shl x 8
theorem un_shr3 (x : BitVec 32) : un x / (8 : Int) = un (x >>> 3) := un_shr x 3
theorem un_shr10 (x : BitVec 32) : un x / (1024 : Int) = un (x >>> 10) := un_shr x 10
theorem un_shr24 (x : BitVec 32) : un x / (16777216 : Int) = un (x >>> 24) := un_shr x 24
theorem un_shr16 (x : BitVec 32) : un x / (65536 : Int) = un (x >>> 16) := un_shr x 16
theorem un_shr8 (x : BitVec 32) : un x / (256 : Int) = un (x >>> 8) := un_shr x 8
/-- A byte made a word; a word's lowest byte. -/
theorem un_of_byte (b : UInt8) : IntKind.u32.wrap (ub b) = un (byteW b) := by
  unfold ub un byteW
  rw [u32_wrap_nat, BitVec.toNat_setWidth]
  rfl
def loB (x : BitVec 32) : UInt8 := UInt8.ofBitVec (x.setWidth 8)
theorem ub_of_word (x : BitVec 32) : IntKind.u8.wrap (un x) = ub (loB x) := by
  unfold ub un loB
  simp [IntKind.wrap, IntKind.bits, IntKind.signed, UInt8.toNat]
theorem un_mod256 (x : BitVec 32) : un x % 256 = ub (loB x) := by
  rw [← ub_of_word]; simp [IntKind.wrap, IntKind.bits, IntKind.signed]
theorem un_sum3 (a b c : BitVec 32) : (un a + un b + un c) % 4294967296 = un (a + b + c) := by
  rw [← un_addm, ← un_addm]; omega
theorem un_sum4 (a b c d : BitVec 32) : (un a + un b + un c + un d) % 4294967296 = un (a + b + c + d) := by
  rw [← un_addm, ← un_addm, ← un_addm]; omega
theorem un_sum5 (a b c d e : BitVec 32) : (un a + un b + un c + un d + un e) % 4294967296 = un (a + b + c + d + e) := by
  rw [← un_addm, ← un_addm, ← un_addm, ← un_addm]; omega
/-- Words as cells; bytes as cells. -/
def Us (l : List (BitVec 32)) : List Value := l.map fun x => .int .u32 (un x)
def Bs (l : List UInt8) : List Value := l.map fun x => .int .u8 (ub x)
theorem Us_at (l : List (BitVec 32)) (j : Nat) (h : j < l.length) : (Us l)[j]? = some (.int .u32 (un (gw l j))) := by
  simp [Us, gw, List.getD_eq_getElem?_getD, List.getElem?_eq_getElem h]
theorem Us_set (l : List (BitVec 32)) (j : Nat) (x : BitVec 32) : (Us l).set j (.int .u32 (un x)) = Us (l.set j x) := by
  simp [Us, List.map_set]
theorem Bs_at (l : List UInt8) (j : Nat) (h : j < l.length) : (Bs l)[j]? = some (.int .u8 (ub (gb l j))) := by
  simp [Bs, gb, List.getD_eq_getElem?_getD, List.getElem?_eq_getElem h]
theorem Bs_set (l : List UInt8) (j : Nat) (x : UInt8) : (Bs l).set j (.int .u8 (ub x)) = Bs (l.set j x) := by
  simp [Bs, List.map_set]
@[simp] theorem Us_length (l : List (BitVec 32)) : (Us l).length = l.length := by simp [Us]
@[simp] theorem Bs_length (l : List UInt8) : (Bs l).length = l.length := by simp [Bs]
theorem Us_append (l m : List (BitVec 32)) : Us (l ++ m) = Us l ++ Us m := by simp [Us]
theorem Bs_append (l m : List UInt8) : Bs (l ++ m) = Bs l ++ Bs m := by simp [Bs]
end Go.Proofs.YtpfoohfgochaiaaGreatDoor
