/- oid.Hex: bytes as digits. strconv: numbers in base 16; a row of bytes made a text. strconv.FormatInt, FormatUint in base 16. oid.Hex: bytes as digits. -/
import Derived.Test.YtmnndehoopmmaaaGreatDoorHs
import Derived.Deep.RegionLaw
namespace Go.Proofs.YtmnndehoopmmaaaGreatDoor
open Go.RowKit
/-- A digit. -/
def hexd (n : Nat) : UInt8 := [48, 49, 50, 51, 52, 53, 54, 55, 56, 57, 97, 98, 99, 100, 101, 102].getD n 0
def hex2 (b : UInt8) : List UInt8 := [hexd (b.toNat / 16), hexd (b.toNat % 16)]
def hexL (bs : List UInt8) : List UInt8 := bs.flatMap hex2
theorem hexL_snoc (bs : List UInt8) (b : UInt8) : hexL (bs ++ [b]) = hexL bs ++ hex2 b := by simp [hexL]
@[simp] theorem hexL_length (bs : List UInt8) : (hexL bs).length = 2 * bs.length := by
  induction bs with
  | nil => rfl
  | cons b r ih => simp [hexL, hex2] at ih ⊢; omega
def digitsB : ByteArray := ⟨#[48, 49, 50, 51, 52, 53, 54, 55, 56, 57, 97, 98, 99, 100, 101, 102]⟩
theorem digits_at (n : Nat) (h : n < 16) : digitsB[n]? = some (hexd n) := by
  have : ∀ m : Fin 16, digitsB[m.val]? = some (hexd m.val) := by decide
  exact this ⟨n, h⟩
theorem run_digit (W : World) (n : Nat) (h : n < 16) : (Instr.index 9 (.string digitsB) (.int .u8 n)).run Tryz.prog W = .ok (.int .u8 (ub (hexd n))) W := by
  have hu : Tryz.prog.underlying 9 = some .string := by kernel_rfl
  unfold Instr.index
  simp [go_sem, digits_at n h]
  rfl
theorem run_at (W : World) (bs : List UInt8) (hl : bs.length = 32) (k : Nat) (h : k < 32) : (Instr.index 50 (.agg (Bs bs).toArray) (.int .i64 k)).run Tryz.prog W = .ok (.int .u8 (ub (gb bs k))) W := by
  have hu := Tryz.underlying50
  have hg : (Bs bs)[k]? = some (.int .u8 (ub (gb bs k))) := by
    simp [Bs, gb, List.getD_eq_getElem?_getD, hl, h]
  unfold Instr.index
  simp [go_sem, h]
  rw [hg]
  rfl
theorem and15 (b : UInt8) : bits .and .u8 (ub b) 15 = ((b.toNat % 16 : Nat) : Int) := by
  have h : ∀ n : Fin 256, bits .and .u8 ((n.val : Nat) : Int) 15 = ((n.val % 16 : Nat) : Int) := by decide +kernel
  exact h ⟨b.toNat, b.toNat_lt⟩
end Go.Proofs.YtmnndehoopmmaaaGreatDoor
namespace Go.Proofs.YtmnndehoopmmaaaGreatDoor
open Go.RowKit
/-- A row of bytes as a text. -/
theorem run_str (w : World) (A : Option Addr) (m c : Nat) (bs : List UInt8) (h : Src w 1 A m (Bs bs)) :
    (convert 23 9 (.slice A m c)).run Tryz.prog w = .ok (.string ⟨bs.toArray⟩) w := by
  have hs := Tryz.underlying23
  have he : Tryz.prog.underlying 5 = some (.int .u8) := by kernel_rfl
  have hd : Tryz.prog.underlying 9 = some .string := by kernel_rfl
  have hl : bs.length = m := by have := h.1; simpa using this
  rw [run_convert_bytes_string w _ _ _ _ _ _ hs he hd]
  rcases A with _ | ad
  · rcases m with _ | m
    · have : bs = [] := List.eq_nil_of_length_eq_zero hl
      subst this
      simp [Conv.bytesToString]
      rfl
    · obtain ⟨ad, e, _⟩ := h.2.1 (by omega); cases e
  · have hc : ∀ j u, (Bs bs)[j]? = some u → w.cell? (ad.add j) = some u := by
      intro j u hu
      have hm : 0 < m := by
        rcases Nat.eq_zero_or_pos m with h0 | h0
        · have e : (Bs bs)[j]? = none := List.getElem?_eq_none (by simp; omega)
          rw [e] at hu; cases hu
        · exact h0
      obtain ⟨ad', e, hc⟩ := h.2.1 hm
      obtain rfl : ad = ad' := Option.some.inj e
      exact hc j u hu
    have e1 : Bs bs = (bs.map fun b => (b.toNat : Int)).map (Value.int .u8) := by simp [Bs, ub]
    have hl2 : (loadCells ad m).run Tryz.prog w = .ok ((bs.map fun b => (b.toNat : Int)).map (Value.int .u8)).toArray w := by
      have := run_loadCells_list (P := Tryz.prog) w ad (Bs bs) hc
      rw [e1] at this
      simpa [hl] using this
    rw [run_bytesToString w ad m c _ hl2, foldl_push_bytes]
    simp [ByteArray.empty, ByteArray.emptyWithCapacity, Function.comp_def]
    rfl
section
variable {P : Program} {ops : Array Oper} {rest : List Oper} {o : Oper} {a : Act} {w : World} {Q : Exit → Act → World → Prop}
/-- A conversion, by what it runs to. -/
theorem wpl_conv (hgd : o.guard = none) (t1 t2 : TypeId) (x : Operand) (ho : o.op = .convert t1 t2 x) (v : Value) (h0 : (convert t1 t2 (a.eval x)).run P w = .ok v w)
    (h : wpList P ops Q rest (a.put o.dst v) w) : wpList P ops Q (o :: rest) a w := by
  refine wpList_plain hgd fun K hK => ?_
  unfold Oper.wp execOp
  simp only [ho, Sem.run_bind, Sem.run_pure, Result.andThen_ok, h0]
  exact hK _ _ h
end
/-- A number in base 16, no nought ahead. -/
def hexS (n : Nat) : List UInt8 := if n < 16 then [hexd n] else hexS (n / 16) ++ [hexd (n % 16)]
theorem hexS_lt {n : Nat} (h : n < 16) : hexS n = [hexd n] := by rw [hexS, if_pos h]
theorem hexS_ge {n : Nat} (h : 16 ≤ n) : hexS n = hexS (n / 16) ++ [hexd (n % 16)] := by rw [hexS, if_neg (by omega)]
theorem hexS_pos (n : Nat) : 1 ≤ (hexS n).length := by
  rw [hexS]; split <;> simp
theorem hexS_len (k : Nat) : ∀ n, n < 16 ^ (k + 1) → (hexS n).length ≤ k + 1 := by
  induction k with
  | zero => intro n h; rw [hexS_lt (by simpa using h)]; simp
  | succ k ih =>
    intro n h
    rcases Nat.lt_or_ge n 16 with h1 | h1
    · rw [hexS_lt h1]; simp
    · rw [hexS_ge h1, List.length_append]
      have := ih (n / 16) (by rw [Nat.pow_succ] at h; omega)
      simp; omega
def digits36 : ByteArray := ⟨#[48, 49, 50, 51, 52, 53, 54, 55, 56, 57, 97, 98, 99, 100, 101, 102, 103, 104, 105, 106, 107, 108, 109, 110, 111, 112, 113, 114, 115, 116, 117, 118, 119, 120, 121, 122]⟩
theorem digits36_at (n : Nat) (h : n < 16) : digits36[n]? = some (hexd n) := by
  have : ∀ m : Fin 16, digits36[m.val]? = some (hexd m.val) := by decide
  exact this ⟨n, h⟩
theorem digit36_of (n : Nat) (h : n < digits36.size) (h16 : n < 16) : ((digits36[n]'h).toNat : Int) = ub (hexd n) := by
  have := digits36_at n h16
  rw [getElem?_pos digits36 n h] at this
  injection this with this
  rw [this]; rfl
theorem run_digit36 (W : World) (n : Nat) (h : n < 16) : (Instr.index 9 (.string digits36) (.int .u64 n)).run Tryz.prog W = .ok (.int .u8 (ub (hexd n))) W := by
  have hu : Tryz.prog.underlying 9 = some .string := by kernel_rfl
  unfold Instr.index
  simp [go_sem, digits36_at n h]
  rfl
def zero65 : List Value := Bs (List.replicate 65 0)
theorem z65_eq : (Obj.cells #[.int .u8 0, .int .u8 0, .int .u8 0, .int .u8 0, .int .u8 0, .int .u8 0, .int .u8 0, .int .u8 0, .int .u8 0, .int .u8 0, .int .u8 0, .int .u8 0, .int .u8 0, .int .u8 0, .int .u8 0, .int .u8 0, .int .u8 0, .int .u8 0, .int .u8 0, .int .u8 0, .int .u8 0, .int .u8 0, .int .u8 0, .int .u8 0, .int .u8 0, .int .u8 0, .int .u8 0, .int .u8 0, .int .u8 0, .int .u8 0, .int .u8 0, .int .u8 0, .int .u8 0, .int .u8 0, .int .u8 0, .int .u8 0, .int .u8 0, .int .u8 0, .int .u8 0, .int .u8 0, .int .u8 0, .int .u8 0, .int .u8 0, .int .u8 0, .int .u8 0, .int .u8 0, .int .u8 0, .int .u8 0, .int .u8 0, .int .u8 0, .int .u8 0, .int .u8 0, .int .u8 0, .int .u8 0, .int .u8 0, .int .u8 0, .int .u8 0, .int .u8 0, .int .u8 0, .int .u8 0, .int .u8 0, .int .u8 0, .int .u8 0, .int .u8 0, .int .u8 0] 175 : Obj) = .cells zero65.toArray 175 := rfl
theorem run_pow2 (W : World) : Calls Tryz.prog 166 #[.int .i64 16] W fun e W' => e = .returned (.bool true) ∧ W' = W := by
  go_enter Tryz.func166, Tryz.ntmps166
  go_wp2
  go_ret
  exact ⟨rfl, rfl⟩
/-- The table of the trailing noughts, as it is laid. -/
def Deb (W : World) : Prop := W.cell? ⟨6, 15, none⟩ = some (.int .u8 4)
theorem tz64_16 (W : World) (hT : Deb W) : Calls Tryz.prog 185 #[.int .u64 16] W fun e W' => e = .returned (.int .i64 4) ∧ W' = W := by
  have hc : W.cell? ⟨6, 15, none⟩ = some (.int .u8 4) := hT
  clear hT
  have q1 : IntKind.u64.wrap (-16) = 18446744073709551600 := by decide
  have q2 : bits .and .u64 16 18446744073709551600 = 16 := by decide
  have q3 : IntKind.u64.wrap (16 * 285870213051353865) = 4573923408821661840 := by decide
  go_enter Tryz.func185, Tryz.ntmps185
  go_wp2
  go_ret
  exact ⟨rfl, rfl⟩
theorem tz_16 (W : World) (hT : Deb W) : Calls Tryz.prog 167 #[.int .u64 16] W fun e W' => e = .returned (.int .i64 4) ∧ W' = W := by
  have HT := Lib.hid hT
  clear hT
  go_enter Tryz.func167, Tryz.ntmps167
  go_wp2_with (go_at_call 185; refine (tz64_16 _ HT.out).mono ?_; rintro e w' ⟨rfl, rfl⟩)
  go_ret
  exact ⟨rfl, rfl⟩
end Go.Proofs.YtmnndehoopmmaaaGreatDoor
namespace Go.Proofs.YtmnndehoopmmaaaGreatDoor
open Go.RowKit
/-- The digits so far stand at the array's end. -/
def FbIn (W : World) (u0 u : Nat) (ds : List UInt8) (wr : World) : Prop :=
  hexS u0 = hexS u ++ ds ∧ u * 16 ^ ds.length ≤ u0 ∧ Below W.heap.size W wr ∧ ∃ cs, Blk wr W.heap.size 175 cs ∧ cs.length = 65 ∧ cs.drop (65 - ds.length) = Bs ds
theorem fb_start (W wr : World) (u0 : Nat) (hb : Below W.heap.size W wr) (h : Blk wr W.heap.size 175 zero65) : FbIn W u0 u0 [] wr :=
  ⟨by simp, by simp, hb, zero65, h, by simp [zero65], by simp [zero65, Bs]⟩
theorem FbIn.small {W wr : World} {u0 u : Nat} {ds : List UInt8} (h : FbIn W u0 u ds wr) (h0 : u0 < 18446744073709551616) (hu : 1 ≤ u ∨ ds = []) : ds.length ≤ 15 := by
  rcases hu with hu | rfl
  · rcases Nat.lt_or_ge ds.length 16 with hl | hl
    · omega
    · have h1 : 16 ^ 16 ≤ 16 ^ ds.length := Nat.pow_le_pow_right (by omega) hl
      have h2 : 1 * 16 ^ ds.length ≤ u * 16 ^ ds.length := Nat.mul_le_mul_right _ hu
      have := h.2.1
      omega
  · simp
theorem fb_put {W wr : World} {u0 u : Nat} {ds : List UInt8} (h : FbIn W u0 u ds wr) (hl : ds.length < 65) (d : UInt8) (k : Nat) (hk : k = 65 - ds.length - 1) :
    Below W.heap.size W (wr.setCell ⟨W.heap.size, k, none⟩ (.int .u8 (ub d))) ∧ ∃ cs, Blk (wr.setCell ⟨W.heap.size, k, none⟩ (.int .u8 (ub d))) W.heap.size 175 cs ∧ cs.length = 65 ∧ cs.drop (65 - (d :: ds).length) = Bs (d :: ds) := by
  obtain ⟨_, _, hb, cs, hc, hcl, hd⟩ := h
  subst hk
  refine ⟨hb.setCell (Nat.le_refl _) _, _, hc.setCell _ _, by simpa using hcl, ?_⟩
  have e : 65 - (d :: ds).length = 65 - ds.length - 1 := by simp; omega
  rw [e, List.drop_eq_getElem_cons (by simp; omega)]
  rw [List.getElem_set_self, List.drop_set_of_lt (by omega), show 65 - ds.length - 1 + 1 = 65 - ds.length by omega, hd]
  rfl
theorem fb_round {W wr : World} {u0 u : Nat} {ds : List UInt8} (h : FbIn W u0 u ds wr) (hl : ds.length < 65) (hu : 16 ≤ u) (k : Nat) (hk : k = 65 - ds.length - 1) :
    FbIn W u0 (u / 16) (hexd (u % 16) :: ds) (wr.setCell ⟨W.heap.size, k, none⟩ (.int .u8 (ub (hexd (u % 16))))) := by
  obtain ⟨h1, h2⟩ := fb_put h hl (hexd (u % 16)) k hk
  refine ⟨?_, ?_, h1, h2⟩
  · rw [h.1, hexS_ge hu]; simp
  · refine Nat.le_trans ?_ h.2.1
    rw [List.length_cons, Nat.pow_succ, ← Nat.mul_assoc, Nat.mul_right_comm]
    exact Nat.mul_le_mul_right _ (by omega)
theorem fb_last {W wr : World} {u0 u : Nat} {ds : List UInt8} (h : FbIn W u0 u ds wr) (hl : ds.length < 65) (hu : u < 16) (k : Nat) (hk : k = 65 - ds.length - 1) :
    Src (wr.setCell ⟨W.heap.size, k, none⟩ (.int .u8 (ub (hexd u)))) 1 (some ⟨W.heap.size, k, none⟩) (65 - k) (Bs (hexS u0)) ∧ Below W.heap.size W (wr.setCell ⟨W.heap.size, k, none⟩ (.int .u8 (ub (hexd u)))) := by
  obtain ⟨h1, cs, hc, hcl, hd⟩ := fb_put h hl (hexd u) k hk
  have e : hexS u0 = hexd u :: ds := by rw [h.1, hexS_lt hu]; rfl
  refine ⟨⟨by rw [e]; simp; omega, fun _ => ⟨_, rfl, fun j v hj => ?_⟩, Bs_one _⟩, h1⟩
  have ha : (⟨W.heap.size, k, none⟩ : Addr).add j = ⟨W.heap.size, k + j, none⟩ := by unfold Addr.add; split <;> simp_all
  rw [ha]
  refine hc.cell _ _ ?_
  rw [e, ← hd, List.getElem?_drop] at hj
  rw [← hj]
  congr 1
  simp; omega
theorem fb_and (u : Nat) (h : u < 18446744073709551616) : bits .and .u64 (u : Int) 15 = ((u % 16 : Nat) : Int) := by
  show IntKind.u64.wrap ((BitVec.ofInt 64 (u : Int) &&& BitVec.ofInt 64 15).toNat : Int) = _
  have e1 : (BitVec.ofInt 64 (u : Int) &&& BitVec.ofInt 64 15).toNat = u % 16 := by
    rw [BitVec.toNat_and]
    have : (BitVec.ofInt 64 (u : Int)).toNat = u := by simp; omega
    rw [this]
    exact Nat.and_two_pow_sub_one_eq_mod u 4
  rw [e1]
  show ((u % 16 : Nat) : Int) % 18446744073709551616 = _
  omega
/-- A byte array cut from k on. -/
theorem run_cutAt (T n : Nat) (hu : Tryz.prog.underlying T = some (.array n 5)) (g k : Nat) (hk : k < n) (W : World) :
    (Instr.sliceAt T (.pointer (some ⟨g, 0, none⟩)) (some (.int .i64 (k : Int))) none none).run Tryz.prog W = .ok (.slice (some ⟨g, k, none⟩) (n - k) (n - k)) W := by
  have e1 : Tryz.prog.arrayLen T = n := by simp [Program.arrayLen, hu]
  have e2 : Tryz.prog.elem T = 5 := by simp [Program.elem, hu]
  have hs : (sizeOf 5).run Tryz.prog W = .ok 1 W := by kernel_rfl
  rw [run_sliceAt_array_l W T ⟨g, 0, none⟩ (by rw [e1, e2]; exact hu) .i64 (k : Int) (Int.natCast_nonneg _) (by rw [e1]; omega), e1, e2, hs]
  have ha : (⟨g, 0, none⟩ : Addr).add k = ⟨g, k, none⟩ := by unfold Addr.add; split <;> simp_all
  simp only [Result.andThen, slicedAt, Int.toNat_natCast]
  rw [if_neg (by omega), Nat.mul_one, ha]
def FbPost (W : World) (u0 : Nat) (e : Ending) (W' : World) : Prop := e = .returned (.tuple #[.slice none 0 0, .string ⟨(hexS u0).toArray⟩]) ∧ Below W.heap.size W W'
set_option maxRecDepth 100000 in
set_option maxHeartbeats 1000000 in
theorem fbits_16 (W : World) (u0 : Nat) (h0 : u0 < 18446744073709551616) (hT : Deb W) : Calls Tryz.prog 126 #[.slice none 0 0, .int .u64 u0, .int .i64 16, .bool false, .bool false] W (FbPost W u0) := by
  have z65 := z65_eq
  have HT : Hid (Deb (W.alloc (.cells zero65.toArray 175))) := by
    have h1 : W.cell? ⟨6, 15, none⟩ = some (.int .u8 4) := hT
    exact (World.cell?_alloc_some W _ _ (by rw [h1]; rfl)).trans h1
  clear hT
  have HB : Hid (FbIn W u0 u0 [] (W.alloc (.cells zero65.toArray 175))) := fb_start W _ u0 ((Below.refl _ _).alloc (Nat.le_refl _) _) (Blk.new W _ _)
  go_enter Tryz.func126, Tryz.ntmps126
  go_wp2_with (first | (go_at_call 166; refine (run_pow2 _).mono ?_; rintro e w' ⟨rfl, rfl⟩) | (go_at_call 167; refine (tz_16 _ HT.out).mono ?_; rintro e w' ⟨rfl, rfl⟩))
  generalize W.alloc (.cells zero65.toArray 175) = W0 at HB HT ⊢
  go_loopw [1, 13] (fun v i wr => ∃ (u : Nat) (ds : List UInt8), v = .int .u64 u ∧ i = .int .i64 (65 - ds.length : Nat) ∧ (1 ≤ u ∨ ds = []) ∧ FbIn W u0 u ds wr) (fun v _ _ => (intOf v).toNat)
  case atStart => exact ⟨u0, [], rfl, rfl, .inr rfl, HB.out⟩
  case round =>
    obtain ⟨u, ds, rfl, rfl, hu, hI⟩ := hrel
    have hs := hI.small h0 hu
    clear HB z65
    have u64 : (u : Int) < 18446744073709551616 := by
      have h1 : u * 1 ≤ u * 16 ^ ds.length := Nat.mul_le_mul_left _ (Nat.one_le_pow _ _ (by omega))
      have := hI.2.1
      omega
    obtain ⟨k, hk⟩ : ∃ k, k = 65 - ds.length - 1 := ⟨_, rfl⟩
    have hk1 : 65 - ds.length = k + 1 := by omega
    have l1 : k < 65 := by omega
    have l1' : (k : Int) < 65 := by omega
    obtain ⟨x, hx⟩ : ∃ x, wr.cell? ⟨W.heap.size, k, none⟩ = some x := by
      obtain ⟨_, _, _, cs, hc, hcl, _⟩ := hI
      exact ⟨_, hc.cell k _ (List.getElem?_eq_getElem (show k < cs.length by omega))⟩
    have hf : wr.frozen? ⟨W.heap.size, k, none⟩ = false := by
      obtain ⟨_, _, _, cs, hc, hcl, _⟩ := hI
      exact hc.frozen k
    rw [hk1]
    have HI := Lib.hid hI
    have HK := Lib.hid hk
    have HU := Lib.hid hu
    have HS := Lib.hid hs
    clear hI hk hu hs hk1
    by_cases hlt : u < 16
    · have l2 : (u : Int) < 16 := by omega
      have l3 : ¬ (16 : Int) ≤ (u : Int) := by omega
      have hsl := run_cutAt 175 65 Tryz.underlying175 W.heap.size k l1
      go_wp2_with (first | (refine wpl_index rfl 9 _ _ rfl (.int .u8 (ub (hexd u))) (run_digit36 _ u hlt) ?_) | (refine wpl_conv rfl 23 9 _ rfl (.string ⟨(hexS u0).toArray⟩) (run_str _ _ _ _ _ (fb_last HI.out (by have := HS.out; omega) hlt k HK.out).1) ?_))
      go_ret2
      exact ⟨rfl, (fb_last HI.out (by have := HS.out; omega) hlt k HK.out).2⟩
    · obtain ⟨m, hm⟩ : ∃ m, m = u % 16 := ⟨_, rfl⟩
      have l3 : (16 : Int) ≤ (u : Int) := by omega
      have q1 : bits .and .u64 (u : Int) 15 = (m : Int) := by rw [fb_and u (by omega), hm]
      have l4 : m < 16 := by omega
      have HM := Lib.hid hm
      clear hm
      go_wp2_with (refine wpl_index rfl 9 _ _ rfl (.int .u8 (ub (hexd m))) (run_digit36 _ m l4) ?_)
      go_roundw
      case measure => simp [intOf]; omega
      case rel =>
        have hr := fb_round HI.out (by have := HS.out; omega) (by omega) k HK.out
        rw [← HM.out] at hr
        exact ⟨u / 16, hexd m :: ds, by go_num, by rw [List.length_cons, show 65 - (ds.length + 1) = k by have := HK.out; omega], .inl (by omega), hr⟩
set_option maxHeartbeats 400000 in
theorem fint_16 (W : World) (u : Nat) (h : u < 9223372036854775808) (hT : Deb W) : Calls Tryz.prog 116 #[.int .i64 u, .int .i64 16] W fun e W' => e = .returned (.string ⟨(hexS u).toArray⟩) ∧ Below W.heap.size W W' := by
  have h1 : ¬ (u : Int) < 0 := by omega
  have h2 : (u : Int) < 9223372036854775808 := by omega
  have HT := Lib.hid hT
  clear hT
  have c0 : ∀ w, Deb w → Calls Tryz.prog 149 #[.int .i64 u, .int .i64 16] w fun e W' => e = .returned (.string ⟨(hexS u).toArray⟩) ∧ Below w.heap.size w W' := by
    intro w hw
    have HW := Lib.hid hw
    clear hw
    have e1 : IntKind.u64.wrap (u : Int) = (u : Int) := by show (u : Int) % 18446744073709551616 = _; omega
    go_enter Tryz.func149, Tryz.ntmps149
    go_wp2_with (go_at_call 126; refine (fbits_16 _ u (by omega) HW.out).mono ?_; rintro e w' ⟨rfl, hb⟩; have B := Lib.hid hb; clear hb)
    go_ret
    exact ⟨rfl, B.out⟩
  go_enter Tryz.func116, Tryz.ntmps116
  go_wp2_with (go_at_call 149; refine (c0 _ HT.out).mono ?_; rintro e w' ⟨rfl, hb⟩; have B := Lib.hid hb; clear hb)
  go_ret
  exact ⟨rfl, B.out⟩
set_option maxHeartbeats 400000 in
theorem fuint_16 (W : World) (u : Nat) (h : u < 18446744073709551616) (hT : Deb W) : Calls Tryz.prog 67 #[.int .u64 u, .int .i64 16] W fun e W' => e = .returned (.string ⟨(hexS u).toArray⟩) ∧ Below W.heap.size W W' := by
  have HT := Lib.hid hT
  clear hT
  have c0 : ∀ w, Deb w → Calls Tryz.prog 97 #[.int .u64 u, .int .i64 16] w fun e W' => e = .returned (.string ⟨(hexS u).toArray⟩) ∧ Below w.heap.size w W' := by
    intro w hw
    have HW := Lib.hid hw
    clear hw
    go_enter Tryz.func97, Tryz.ntmps97
    go_wp2_with (go_at_call 126; refine (fbits_16 _ u h HW.out).mono ?_; rintro e w' ⟨rfl, hb⟩; have B := Lib.hid hb; clear hb)
    go_ret
    exact ⟨rfl, B.out⟩
  go_enter Tryz.func67, Tryz.ntmps67
  go_wp2_with (go_at_call 97; refine (c0 _ HT.out).mono ?_; rintro e w' ⟨rfl, hb⟩; have B := Lib.hid hb; clear hb)
  go_ret
  exact ⟨rfl, B.out⟩
end Go.Proofs.YtmnndehoopmmaaaGreatDoor
namespace Go.Proofs.YtmnndehoopmmaaaGreatDoor
open Go.RowKit
theorem Tryz.sizeId : (Tryz.prog.info? 51).map (·.size) = some 32 := by kernel_rfl
theorem run_atId (W : World) (bs : List UInt8) (hl : bs.length = 32) (k : Nat) (h : k < 32) : (Instr.index 51 (.agg (Bs bs).toArray) (.int .i64 k)).run Tryz.prog W = .ok (.int .u8 (ub (gb bs k))) W := by
  have hu := Tryz.underlying51
  have hg : (Bs bs)[k]? = some (.int .u8 (ub (gb bs k))) := by
    simp [Bs, gb, List.getD_eq_getElem?_getD, hl, h]
  unfold Instr.index
  simp [go_sem, h]
  rw [hg]
  rfl
def hi4 (b : UInt8) : Nat := b.toNat / 16
def lo4 (b : UInt8) : Nat := b.toNat % 16
theorem hi4_lt (b : UInt8) : hi4 b < 16 := by have := b.toNat_lt; unfold hi4; omega
theorem lo4_lt (b : UInt8) : lo4 b < 16 := by unfold lo4; omega
theorem hi4_eq (b : UInt8) : ub b / 16 = (hi4 b : Int) := by unfold ub hi4; omega
theorem lo4_eq (b : UInt8) : bits .and .u8 (ub b) 15 = (lo4 b : Int) := and15 b
theorem digit_of (n : Nat) (h : n < digitsB.size) : ((digitsB[n]'h).toNat : Int) = ub (hexd n) := by
  have h16 : n < 16 := h
  have := digits_at n h16
  rw [getElem?_pos digitsB n h] at this
  injection this with this
  rw [this]; rfl
theorem src_box2 (w : World) (x y : Int) (k : Nat) (hk : w.heap.size = k) : Src (w.alloc (.cells #[.int .u8 x, .int .u8 y] 5)) 1 (some ⟨k, 0, none⟩) 2 [.int .u8 x, .int .u8 y] := by
  subst hk
  refine ⟨rfl, fun _ => ⟨_, rfl, fun j u hu => ?_⟩, by intro u hu; simp at hu; rcases hu with rfl | rfl <;> rfl⟩
  have := (Blk.new w 5 [.int .u8 x, .int .u8 y]).cell j u (by simpa using hu)
  have e : (⟨w.heap.size, 0, none⟩ : Addr).add j = ⟨w.heap.size, j, none⟩ := by unfold Addr.add; split <;> simp_all
  rw [e]; exact this
theorem hex_round {w : World} {base : Nat} {v : Value} (bs : List UInt8) (k : Nat) (hk : k < 32) (hl : bs.length = 32)
    (h : RowQ w base 5 1 v (2 * k + 2) (Bs (hexL (bs.take k)) ++ [.int .u8 (ub (hexd (hi4 (gb bs k)))), .int .u8 (ub (hexd (lo4 (gb bs k))))])) : RowQ w base 5 1 v (2 * (k + 1)) (Bs (hexL (bs.take (k + 1)))) := by
  have e : bs.take (k + 1) = bs.take k ++ [gb bs k] := by
    rw [List.take_succ_eq_append_getElem (by omega)]
    simp [gb, List.getD_eq_getElem?_getD, hl, hk]
  rw [e, hexL_snoc, Bs_append]
  exact h
theorem grown_low {B : Nat} {W w w1 : World} {row : Option Nat} (hb : Below B W w) (hs : B ≤ w.heap.size) (hg : w.grownBy w1 row) (hr : ∀ k, row = some k → B ≤ k) : Below B W w1 := hb.grown hg hs hr
set_option maxRecDepth 100000 in
set_option maxHeartbeats 1000000 in
theorem hex_any (W : World) (bs : List UInt8) (hl : bs.length = 32) : Calls Tryz.prog 39 #[.agg (Bs bs).toArray] W fun e W' => e = .returned (.string ⟨(hexL bs).toArray⟩) ∧ Below W.heap.size W W' := by
  have hb : (Bs bs).length = 32 := by simp [hl]
  obtain ⟨cs, hcs⟩ : ∃ cs, cs = Bs bs := ⟨_, rfl⟩
  rw [← hcs]
  have HL := Lib.hid hl
  have HC := Lib.hid hcs
  clear hl hcs hb
  go_enter Tryz.func39, Tryz.ntmps39
  go_wp2_with (refine wpl_load rfl 51 (.tmp 1) rfl W.heap.size rfl 51 cs (Blk.new W _ _) 32 5 Tryz.underlying51 (by rw [Tryz.sizeId, HC.out]; simp [HL.out]) ?_)
  generalize hW0 : W.alloc (.cells cs.toArray 51) = W0
  have B0 : Hid (Below W.heap.size W W0) := by rw [← hW0]; exact (Below.refl _ _).alloc (Nat.le_refl _) _
  clear hW0
  go_loopw [3, 7] (fun v i wr => ∃ k : Nat, k ≤ 32 ∧ i = .int .i64 k ∧ RowQ wr W.heap.size 5 1 v (2 * k) (Bs (hexL (bs.take k))) ∧ Below W.heap.size W wr) (fun _ i _ => 32 - (intOf i).toNat)
  case atStart => exact ⟨0, by omega, rfl, RowQ.nil _ _ _ _, B0.out⟩
  case round =>
    obtain ⟨k, hk, rfl, hr, hb⟩ := hrel
    clear B0
    obtain ⟨A2, c2, rfl, hc2, hm2⟩ := hr.shape
    have R2 := Lib.hid hr
    have B2 := Lib.hid hb
    clear hr hb
    by_cases h32 : k = 32
    · subst h32
      go_wp2_with (refine wpl_conv rfl 23 9 _ rfl (.string ⟨(hexL (bs.take 32)).toArray⟩) (run_str _ _ _ _ _ (R2.out.src (Bs_one _))) ?_)
      go_ret
      exact ⟨by rw [List.take_of_length_le (by rw [HL.out]; omega)]; rfl, B2.out⟩
    · have hlt : k < 32 := by omega
      have l1 : (k : Int) < 32 := by omega
      go_wp2_with (refine wpl_index rfl 51 _ _ rfl (.int .u8 (ub (gb bs k))) (by rw [show Act.eval _ _ = Value.agg (Bs bs).toArray from by rw [← HC.out]; rfl]; exact run_atId _ bs HL.out k hlt) ?_)
      have q1 := hi4_eq (gb bs k)
      have q2 := lo4_eq (gb bs k)
      have b3 : (hi4 (gb bs k) : Int) < 16 := by have := hi4_lt (gb bs k); omega
      have b4 : (lo4 (gb bs k) : Int) < 16 := by have := lo4_lt (gb bs k); omega
      have q3 : ∀ n h, (((({ data := #[48, 49, 50, 51, 52, 53, 54, 55, 56, 57, 97, 98, 99, 100, 101, 102] } : ByteArray)[n]'h).toNat : Nat) : Int) = ub (hexd n) := fun n h => digit_of n h
      go_region_law (first | (refine step_append_Q rfl (.tmp 10) (.tmp 17) 23 rfl W.heap.size 5 (.int .u8 0) 1 1 Tryz.underlying23 Tryz.info5 rfl (by decide) (.slice A2 (2 * k) c2) (2 * k) (Bs (hexL (bs.take k))) rfl (by with_reducible repeat (first | exact R2.out | apply RowQ.alloc | apply RowQ.drew)) _ 2 2 _ rfl (by with_reducible repeat (first | exact src_box2 _ _ _ _ (by simp only) | apply src_drew)) (by omega) (by omega) (by have := B2.out.size; (try simp only [hsz, drew_size]); first | done | omega) ?_; intro v3 w3 hr3 hg3 hat3; have R3 := Lib.hid hr3; have G3 := Lib.hid hg3; clear hr3 hg3 hat3))
      all_goals
        go_wp2_with fail
        go_roundw
        case measure => show 32 - ((k : Int) + 1).toNat < 32 - (k : Int).toNat; omega
        case rel => exact ⟨k + 1, by omega, by go_num, hex_round bs k hlt HL.out R3.out, grown_low (by with_reducible repeat (first | exact B2.out | apply Below.drew | refine Below.alloc ?_ (by have := B2.out.size; (try simp only [drew_size]); omega) _)) (by have := B2.out.size; (try simp only [hsz, drew_size]); omega) G3.out (fun k e => (R2.out.lt k e).1)⟩
end Go.Proofs.YtmnndehoopmmaaaGreatDoor
