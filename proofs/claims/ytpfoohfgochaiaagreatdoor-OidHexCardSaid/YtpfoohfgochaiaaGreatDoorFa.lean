/- strconv: numbers in base 16; a row of bytes made a text. -/
import Derived.Test.YtpfoohfgochaiaaGreatDoorOh
namespace Go.Proofs.YtpfoohfgochaiaaGreatDoor
open Go.RowKit
/-- A row of bytes as a text. -/
theorem run_str (w : World) (A : Option Addr) (m c : Nat) (bs : List UInt8) (h : Src w 1 A m (Bs bs)) :
    (convert 22 9 (.slice A m c)).run Tryz.prog w = .ok (.string ⟨bs.toArray⟩) w := by
  have hs := Tryz.underlying22
  have he : Tryz.prog.underlying 5 = some (.int .u8) := by kernel_rfl
  have hd : Tryz.prog.underlying 9 = some .string := by kernel_rfl
  have hl : bs.length = m := by have := h.1; simpa using this
  rw [run_convert_bytes_string w _ _ _ _ _ _ hs he hd]
  rcases A with _ | ad
  · rcases m with _ | m
    · have : bs = [] := List.eq_nil_of_length_eq_zero hl
      subst this
      simp [Conv.bytesToString]
      rfl
    · obtain ⟨ad, e, _⟩ := h.2.1 (by omega); cases e
  · have hc : ∀ j u, (Bs bs)[j]? = some u → w.cell? (ad.add j) = some u := by
      intro j u hu
      have hm : 0 < m := by
        rcases Nat.eq_zero_or_pos m with h0 | h0
        · have e : (Bs bs)[j]? = none := List.getElem?_eq_none (by simp; omega)
          rw [e] at hu; cases hu
        · exact h0
      obtain ⟨ad', e, hc⟩ := h.2.1 hm
      obtain rfl : ad = ad' := Option.some.inj e
      exact hc j u hu
    have e1 : Bs bs = (bs.map fun b => (b.toNat : Int)).map (Value.int .u8) := by simp [Bs, ub]
    have hl2 : (loadCells ad m).run Tryz.prog w = .ok ((bs.map fun b => (b.toNat : Int)).map (Value.int .u8)).toArray w := by
      have := run_loadCells_list (P := Tryz.prog) w ad (Bs bs) hc
      rw [e1] at this
      simpa [hl] using this
    rw [run_bytesToString w ad m c _ hl2, foldl_push_bytes]
    simp [ByteArray.empty, ByteArray.emptyWithCapacity, Function.comp_def]
    rfl
section
variable {P : Program} {ops : Array Oper} {rest : List Oper} {o : Oper} {a : Act} {w : World} {Q : Exit → Act → World → Prop}
/-- A conversion, by what it runs to. -/
theorem wpl_conv (hgd : o.guard = none) (t1 t2 : TypeId) (x : Operand) (ho : o.op = .convert t1 t2 x) (v : Value) (h0 : (convert t1 t2 (a.eval x)).run P w = .ok v w)
    (h : wpList P ops Q rest (a.put o.dst v) w) : wpList P ops Q (o :: rest) a w := by
  refine wpList_plain hgd fun K hK => ?_
  unfold Oper.wp execOp
  simp only [ho, Sem.run_bind, Sem.run_pure, Result.andThen_ok, h0]
  exact hK _ _ h
end
/-- A number in base 16, no nought ahead. -/
def hexS (n : Nat) : List UInt8 := if n < 16 then [hexd n] else hexS (n / 16) ++ [hexd (n % 16)]
theorem hexS_lt {n : Nat} (h : n < 16) : hexS n = [hexd n] := by rw [hexS, if_pos h]
theorem hexS_ge {n : Nat} (h : 16 ≤ n) : hexS n = hexS (n / 16) ++ [hexd (n % 16)] := by rw [hexS, if_neg (by omega)]
theorem hexS_pos (n : Nat) : 1 ≤ (hexS n).length := by
  rw [hexS]; split <;> simp
theorem hexS_len (k : Nat) : ∀ n, n < 16 ^ (k + 1) → (hexS n).length ≤ k + 1 := by
  induction k with
  | zero => intro n h; rw [hexS_lt (by simpa using h)]; simp
  | succ k ih =>
    intro n h
    rcases Nat.lt_or_ge n 16 with h1 | h1
    · rw [hexS_lt h1]; simp
    · rw [hexS_ge h1, List.length_append]
      have := ih (n / 16) (by rw [Nat.pow_succ] at h; omega)
      simp; omega
def digits36 : ByteArray := ⟨#[48, 49, 50, 51, 52, 53, 54, 55, 56, 57, 97, 98, 99, 100, 101, 102, 103, 104, 105, 106, 107, 108, 109, 110, 111, 112, 113, 114, 115, 116, 117, 118, 119, 120, 121, 122]⟩
theorem digits36_at (n : Nat) (h : n < 16) : digits36[n]? = some (hexd n) := by
  have : ∀ m : Fin 16, digits36[m.val]? = some (hexd m.val) := by decide
  exact this ⟨n, h⟩
theorem digit36_of (n : Nat) (h : n < digits36.size) (h16 : n < 16) : ((digits36[n]'h).toNat : Int) = ub (hexd n) := by
  have := digits36_at n h16
  rw [getElem?_pos digits36 n h] at this
  injection this with this
  rw [this]; rfl
theorem run_digit36 (W : World) (n : Nat) (h : n < 16) : (Instr.index 9 (.string digits36) (.int .u64 n)).run Tryz.prog W = .ok (.int .u8 (ub (hexd n))) W := by
  have hu : Tryz.prog.underlying 9 = some .string := by kernel_rfl
  unfold Instr.index
  simp [go_sem, digits36_at n h]
  rfl
def zero65 : List Value := Bs (List.replicate 65 0)
theorem z65_eq : (Obj.cells #[.int .u8 0, .int .u8 0, .int .u8 0, .int .u8 0, .int .u8 0, .int .u8 0, .int .u8 0, .int .u8 0, .int .u8 0, .int .u8 0, .int .u8 0, .int .u8 0, .int .u8 0, .int .u8 0, .int .u8 0, .int .u8 0, .int .u8 0, .int .u8 0, .int .u8 0, .int .u8 0, .int .u8 0, .int .u8 0, .int .u8 0, .int .u8 0, .int .u8 0, .int .u8 0, .int .u8 0, .int .u8 0, .int .u8 0, .int .u8 0, .int .u8 0, .int .u8 0, .int .u8 0, .int .u8 0, .int .u8 0, .int .u8 0, .int .u8 0, .int .u8 0, .int .u8 0, .int .u8 0, .int .u8 0, .int .u8 0, .int .u8 0, .int .u8 0, .int .u8 0, .int .u8 0, .int .u8 0, .int .u8 0, .int .u8 0, .int .u8 0, .int .u8 0, .int .u8 0, .int .u8 0, .int .u8 0, .int .u8 0, .int .u8 0, .int .u8 0, .int .u8 0, .int .u8 0, .int .u8 0, .int .u8 0, .int .u8 0, .int .u8 0, .int .u8 0, .int .u8 0] 194 : Obj) = .cells zero65.toArray 194 := rfl
theorem run_pow2 (W : World) : Calls Tryz.prog 198 #[.int .i64 16] W fun e W' => e = .returned (.bool true) ∧ W' = W := by
  go_enter Tryz.func198, Tryz.ntmps198
  go_wp2
  go_ret
  exact ⟨rfl, rfl⟩
/-- The table of the trailing noughts, as it is laid. -/
def Deb (W : World) : Prop := W.cell? ⟨8, 15, none⟩ = some (.int .u8 4)
theorem tz64_16 (W : World) (hT : Deb W) : Calls Tryz.prog 212 #[.int .u64 16] W fun e W' => e = .returned (.int .i64 4) ∧ W' = W := by
  have hc : W.cell? ⟨8, 15, none⟩ = some (.int .u8 4) := hT
  clear hT
  have q1 : IntKind.u64.wrap (-16) = 18446744073709551600 := by decide
  have q2 : bits .and .u64 16 18446744073709551600 = 16 := by decide
  have q3 : IntKind.u64.wrap (16 * 285870213051353865) = 4573923408821661840 := by decide
  go_enter Tryz.func212, Tryz.ntmps212
  go_wp2
  go_ret
  exact ⟨rfl, rfl⟩
theorem tz_16 (W : World) (hT : Deb W) : Calls Tryz.prog 199 #[.int .u64 16] W fun e W' => e = .returned (.int .i64 4) ∧ W' = W := by
  have HT := Lib.hid hT
  clear hT
  go_enter Tryz.func199, Tryz.ntmps199
  go_wp2_with (go_at_call 212; refine (tz64_16 _ HT.out).mono ?_; rintro e w' ⟨rfl, rfl⟩)
  go_ret
  exact ⟨rfl, rfl⟩
end Go.Proofs.YtpfoohfgochaiaaGreatDoor
