/- line: the number that a wire begins with; Get. -/
import Derived.Test.YtpfoohfgochaiaaGreatDoorLb
import Derived.Lib.ConvBytes
import Derived.Outline
namespace Go.Proofs.YtpfoohfgochaiaaGreatDoor
open Go.RowKit
def digitsL : List UInt8 := [48, 49, 50, 51, 52, 53, 54, 55, 56, 57, 97, 98, 99, 100, 101, 102]
/-- A digit's number; -1. -/
def hv (c : UInt8) : Int := Lib.indexByte digitsL c
theorem hv_lt (c : UInt8) : hv c < 16 ∧ -1 ≤ hv c := by
  have h : ∀ n : Fin 256, hv (UInt8.ofNat n.val) < 16 ∧ -1 ≤ hv (UInt8.ofNat n.val) := by decide +kernel
  have := h ⟨c.toNat, c.toNat_lt⟩
  simpa using this
def hstep (a : Option Nat) (c : UInt8) : Option Nat := a.bind fun n => if hv c < 0 then none else some (n * 16 + (hv c).toNat)
/-- The number that digits are. -/
def hnum (l : List UInt8) : Option Nat := l.foldl hstep (some 0)
theorem hnum_snoc (l : List UInt8) (c : UInt8) : hnum (l ++ [c]) = hstep (hnum l) c := by simp [hnum]
theorem hnum_none (l m : List UInt8) (h : hnum l = none) : hnum (l ++ m) = none := by
  have : ∀ m : List UInt8, m.foldl hstep none = none := by
    intro m
    induction m with
    | nil => rfl
    | cons c m ih => exact ih
  unfold hnum at h ⊢
  rw [List.foldl_append, h]
  exact this m
theorem hnum_lt (l : List UInt8) (k : Nat) (hk : k ≤ l.length) : ∀ n, hnum (l.take k) = some n → n < 16 ^ k := by
  induction k with
  | zero => intro n h; simp [hnum] at h; simp; omega
  | succ k ih =>
    intro n h
    rw [List.take_succ_eq_append_getElem (by omega), hnum_snoc] at h
    unfold hstep at h
    cases hl : hnum (l.take k) with
    | none => rw [hl] at h; cases h
    | some m =>
      rw [hl] at h
      simp only [Option.bind_some] at h
      have h1 := ih (by omega) m hl
      have h2 := hv_lt l[k]
      split at h
      · cases h
      · injection h with h
        rw [Nat.pow_succ]
        omega
/-- A text as a row of bytes: the world behind it. -/
theorem conv_bytes (W : World) (s : ByteArray) : ∃ c w1, (convert 9 22 (.string s)).run Tryz.prog W = .ok (.slice (some ⟨W.heap.size, 0, none⟩) s.size c) w1 ∧ Src w1 1 (some ⟨W.heap.size, 0, none⟩) s.size (Bs s.data.toList) ∧ Below W.heap.size W w1 ∧ w1.heap.size = W.heap.size + 1 ∧ s.size ≤ c := by
  have hs : Tryz.prog.underlying 9 = some .string := by kernel_rfl
  have he : Tryz.prog.underlying 5 = some (.int .u8) := by kernel_rfl
  refine ⟨_, _, Lib.run_convert_string_bytes W _ _ _ s hs Tryz.underlying22 he, ⟨by rw [Bs_length, Nat.mul_one]; exact (ba_size s).symm, fun _ => ⟨_, rfl, fun j u hu => ?_⟩, Bs_one _⟩, ⟨rfl, rfl, rfl, ?_, fun k hk => Lib.bytesWorld_at_old W _ s k hk⟩, Lib.bytesWorld_size W _ s, grownCap_ge W _ _ _⟩
  · have ha : (⟨W.heap.size, 0, none⟩ : Addr).add j = ⟨W.heap.size, j, none⟩ := by unfold Addr.add; split <;> simp_all
    have hj : j < s.size := by
      rcases Nat.lt_or_ge j s.size with h | h
      · exact h
      · have : (Bs s.data.toList)[j]? = none := List.getElem?_eq_none (by rw [Bs_length, ← ba_size]; exact h)
        rw [this] at hu; cases hu
    rw [ha, Lib.bytesWorld_cell W _ s j hj, ← hu, Bs_at _ _ (by rw [← ba_size]; exact hj)]
    rfl
  · rw [Lib.bytesWorld_size]; omega
section
variable {P : Program} {ops : Array Oper} {rest : List Oper} {o : Oper} {a : Act} {w : World} {Q : Exit → Act → World → Prop}
/-- A conversion that makes memory. -/
theorem wpl_convw (hgd : o.guard = none) (t1 t2 : TypeId) (x : Operand) (ho : o.op = .convert t1 t2 x) (v0 : Value) (hx : a.eval x = v0) (v : Value) (w1 : World) (h0 : (convert t1 t2 v0).run P w = .ok v w1)
    (h : wpList P ops Q rest (a.put o.dst v) w1) : wpList P ops Q (o :: rest) a w := by
  refine wpList_plain hgd fun K hK => ?_
  unfold Oper.wp execOp
  simp only [ho, Sem.run_bind, Sem.run_pure, Result.andThen_ok, hx, h0]
  exact hK _ _ h
end
/-- Number's answer. -/
def numR (l : List UInt8) : Nat × Nat :=
  match hnum (l.take 4) with
  | none => (0, 1)
  | some n => if decide (4 ≤ l.length) && lmay n then (n, 0) else if decide (l.length < 4) && lbegins l then (0, 2) else (0, 1)
def NumRel (tl : List UInt8) (m : Nat) (v i : Value) : Prop := ∃ k n : Nat, k ≤ m ∧ i = .int .i64 k ∧ v = .int .i64 n ∧ hnum (tl.take k) = some n
set_option maxRecDepth 100000 in
set_option maxHeartbeats 800000 in
theorem number_any (W : World) (s : ByteArray) (hs : s.size ≤ 140737488355328) (hT : Deb W) : Calls Tryz.prog 104 #[.string s] W fun e W' => e = .returned (.tuple #[.int .i64 (numR s.data.toList).1, .int .i64 (numR s.data.toList).2]) ∧ Below W.heap.size W W' := by
  obtain ⟨b, hb⟩ : ∃ b, b = numR s.data.toList := ⟨_, rfl⟩
  rw [← hb]
  have HB := Lib.hid hb
  have HT := Lib.hid hT
  have HZ := Lib.hid (ba_size s)
  clear hb hT
  obtain ⟨t, ht⟩ : ∃ t : ByteArray, s.extract 0 (min (s.size : Int) 4).toNat = t := ⟨_, rfl⟩
  have e4 : (min (s.size : Int) 4).toNat = min s.size 4 := by omega
  have ht2 : t.data.toList = s.data.toList.take 4 := by
    rw [← ht, e4, ba_upto, ba_size, Nat.min_comm, ← List.take_take, List.take_length]
  have ht3 : t.size ≤ 4 := by rw [ba_size, ht2]; exact List.length_take_le _ _
  have ht4 : t.size ≤ s.size := by rw [ba_size, ht2, ba_size]; exact List.length_take_le' _ _
  have htl : t.data.toList.length = t.size := (ba_size t).symm
  have hfull : s.size < 4 ∨ 4 ≤ s.size := by omega
  obtain ⟨c, w1, hcv, hsrc, hbw, hsz1, hc⟩ := conv_bytes W t
  obtain ⟨tl, htl2⟩ : ∃ tl, tl = t.data.toList := ⟨_, rfl⟩
  rw [← htl2] at hsrc ht2 htl
  have S1 := Lib.hid hsrc
  have B1 := Lib.hid hbw
  have T2 := Lib.hid ht2
  have TL := Lib.hid htl
  have D1 := Lib.hid (HT.out.below hbw)
  have l0 : (0 : Int) ≤ (s.size : Int) := by omega
  have l3 : (t.size : Int) ≤ 4 := by omega
  have l5 : (t.size : Int) ≤ (s.size : Int) := by omega
  have C1 := Lib.hid hcv
  have HTT := Lib.hid ht
  clear hsrc hbw hsz1 ht2 htl htl2 hcv ht e4
  go_enter Tryz.func104, Tryz.ntmps104
  go_wp2_with (refine wpl_convw rfl 9 22 _ rfl _ (congrArg Value.string HTT.out) _ w1 C1.out ?_)
  go_loop [4, 15] (fun v i => NumRel tl t.size v i) (fun _ i => t.size - (intOf i).toNat)
  case atStart => exact ⟨0, 0, by omega, rfl, rfl, rfl⟩
  case round =>
    obtain ⟨k, n, hk, rfl, rfl, hn⟩ := hrel
    have hlt := hnum_lt tl k (by rw [TL.out]; exact hk) n hn
    have hpw : 16 ^ k ≤ 16 ^ 4 := Nat.pow_le_pow_right (by omega) (by omega)
    have n1 : (n : Int) < 65536 := by have : n < 65536 := by (have : (16 : Nat) ^ 4 = 65536 := by decide); omega
                                      omega
    have HN := Lib.hid hn
    clear hn hlt hpw
    by_cases hkt : k < t.size
    · obtain ⟨x, hx⟩ : ∃ x, x = gb tl k := ⟨_, rfl⟩
      have hcell : w1.cell? ⟨W.heap.size, k, none⟩ = some (.int .u8 (ub x)) := by
        have hm : 0 < t.size := by omega
        obtain ⟨ad, e, hc⟩ := S1.out.2.1 hm
        obtain rfl := Option.some.inj e
        have := hc k _ (Bs_at tl k (by rw [TL.out]; exact hkt))
        have ha : (⟨W.heap.size, 0, none⟩ : Addr).add k = ⟨W.heap.size, k, none⟩ := by unfold Addr.add; split <;> simp_all
        rw [ha] at this
        rw [this, hx]
      have hxt : tl.take (k + 1) = tl.take k ++ [x] := by
        rw [List.take_succ_eq_append_getElem (by rw [TL.out]; exact hkt), hx]
        simp [gb, List.getD_eq_getElem?_getD, List.getElem?_eq_getElem (show k < tl.length by rw [TL.out]; exact hkt)]
      have hst : hnum (tl.take (k + 1)) = hstep (some n) x := by rw [hxt, hnum_snoc, HN.out]
      have hub : (ub x).toNat.toUInt8 = x := by simp [ub]
      obtain ⟨d, hd⟩ : ∃ d, d = hv x := ⟨_, rfl⟩
      have hd16 := hv_lt x
      rw [← hd] at hd16
      obtain ⟨d1, d2⟩ := hd16
      have X1 := Lib.hid hx
      have X2 := Lib.hid hst
      have HD := Lib.hid hd
      have ci : ∀ w, Calls Tryz.prog 131 #[.string digitsB, .int .u8 (ub x)] w fun e w' => e = .returned (.int .i64 d) ∧ w' = w := by
        intro w
        have := Tryz.strings_IndexByte digitsB (ub x) w
        rw [hub, show Lib.indexByte digitsB.data.toList x = hv x from rfl, ← hd] at this
        exact this
      clear hx hxt hst hub hd
      by_cases hneg : d < 0
      · clear d2
        go_wp2_with (go_at_call 131; refine (ci _).mono ?_; rintro e w' ⟨rfl, rfl⟩)
        go_ret2
        have hnn : hnum (s.data.toList.take 4) = none := by
          rw [← T2.out, ← List.take_append_drop (k + 1) tl]
          refine hnum_none _ _ ?_
          rw [X2.out]
          unfold hstep
          rw [← HD.out]
          simp [hneg]
        exact ⟨by rw [HB.out]; unfold numR; rw [hnn]; rfl, B1.out⟩
      · obtain ⟨dn, rfl⟩ : ∃ m : Nat, d = m := ⟨d.toNat, by omega⟩
        clear d2 hneg
        have d3 : (0 : Int) ≤ (dn : Int) := by omega
        have n0 : (0 : Int) ≤ (n : Int) := by omega
        have q1 : wrap64 ((n : Int) * 16) = (n : Int) * 16 := by unfold wrap64; omega
        have q2 : wrap64 ((n : Int) * 16 + (dn : Int)) = ((n * 16 + dn : Nat) : Int) := by unfold wrap64; omega
        obtain ⟨z, hz⟩ : ∃ z, z = n * 16 + dn := ⟨_, rfl⟩
        rw [← hz] at q2
        have Z := Lib.hid hz
        clear hfull ht3 ht4 l0 l5 hc hs hk hz n1 d1 d3 n0
        go_wp2_with (go_at_call 131; refine (ci _).mono ?_; rintro e w' ⟨rfl, rfl⟩)
        go_round
        case measure => simp [intOf]; omega
        case rel =>
          refine ⟨k + 1, z, by omega, by go_num, by rw [q2], ?_⟩
          rw [X2.out, Z.out]
          unfold hstep
          rw [← HD.out]
          simp
    · have hk2 : k = t.size := by omega
      have hnn : hnum (s.data.toList.take 4) = some n := by
        rw [← T2.out, ← HN.out, List.take_of_length_le (by rw [TL.out]; omega)]
      have HNN := Lib.hid hnn
      clear hnn
      subst hk2
      by_cases h4 : 4 ≤ s.size
      · have l4 : (4 : Int) ≤ (s.size : Int) := by omega
        have g4 : decide ((4 : Int) ≤ (s.size : Int)) = true := by simp; omega
        have g5 : decide ((s.size : Int) < 4) = false := by simp; omega
        cases hm : lmay n
        · go_wp2_with (go_at_call 132; refine (lmay_any _ n).mono ?_; rintro e w' ⟨he, rfl⟩; rw [hm] at he; subst he)
          go_ret2
          exact ⟨by rw [HB.out]; unfold numR; rw [HNN.out]; simp [hm, ← HZ.out, h4]; try (rw [if_neg (by omega)]; simp), B1.out⟩
        · go_wp2_with (go_at_call 132; refine (lmay_any _ n).mono ?_; rintro e w' ⟨he, rfl⟩; rw [hm] at he; subst he)
          go_ret2
          exact ⟨by rw [HB.out]; unfold numR; rw [HNN.out]; simp [hm, ← HZ.out, h4]; try (rw [if_neg (by omega)]; simp), B1.out⟩
      · have l4 : (s.size : Int) < 4 := by omega
        have g4 : decide ((4 : Int) ≤ (s.size : Int)) = false := by simp; omega
        have g5 : decide ((s.size : Int) < 4) = true := by simp; omega
        cases hm : lbegins s.data.toList
        · go_wp2_with (go_at_call 133; refine (begins_any _ s D1.out).mono ?_; rintro e w' ⟨he, hb⟩; rw [hm] at he; subst he; have B2 := Lib.hid hb; clear hb)
          go_ret2
          exact ⟨by rw [HB.out]; unfold numR; rw [HNN.out]; simp [hm, ← HZ.out, h4]; try (rw [if_pos (by omega)]; simp), B1.out.trans (B2.out.mono B1.out.size)⟩
        · go_wp2_with (go_at_call 133; refine (begins_any _ s D1.out).mono ?_; rintro e w' ⟨he, hb⟩; rw [hm] at he; subst he; have B2 := Lib.hid hb; clear hb)
          go_ret2
          exact ⟨by rw [HB.out]; unfold numR; rw [HNN.out]; simp [hm, ← HZ.out, h4]; try (rw [if_pos (by omega)]; simp), B1.out.trans (B2.out.mono B1.out.size)⟩
end Go.Proofs.YtpfoohfgochaiaaGreatDoor
