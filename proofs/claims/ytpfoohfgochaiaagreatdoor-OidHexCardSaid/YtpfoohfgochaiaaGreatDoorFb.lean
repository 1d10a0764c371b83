/- strconv.FormatInt, FormatUint in base 16. -/
import Derived.Test.YtpfoohfgochaiaaGreatDoorFa
namespace Go.Proofs.YtpfoohfgochaiaaGreatDoor
open Go.RowKit
/-- The digits so far stand at the array's end. -/
def FbIn (W : World) (u0 u : Nat) (ds : List UInt8) (wr : World) : Prop :=
  hexS u0 = hexS u ++ ds ∧ u * 16 ^ ds.length ≤ u0 ∧ Below W.heap.size W wr ∧ ∃ cs, Blk wr W.heap.size 194 cs ∧ cs.length = 65 ∧ cs.drop (65 - ds.length) = Bs ds
theorem fb_start (W wr : World) (u0 : Nat) (hb : Below W.heap.size W wr) (h : Blk wr W.heap.size 194 zero65) : FbIn W u0 u0 [] wr :=
  ⟨by simp, by simp, hb, zero65, h, by simp [zero65], by simp [zero65, Bs]⟩
theorem FbIn.small {W wr : World} {u0 u : Nat} {ds : List UInt8} (h : FbIn W u0 u ds wr) (h0 : u0 < 18446744073709551616) (hu : 1 ≤ u ∨ ds = []) : ds.length ≤ 15 := by
  rcases hu with hu | rfl
  · rcases Nat.lt_or_ge ds.length 16 with hl | hl
    · omega
    · have h1 : 16 ^ 16 ≤ 16 ^ ds.length := Nat.pow_le_pow_right (by omega) hl
      have h2 : 1 * 16 ^ ds.length ≤ u * 16 ^ ds.length := Nat.mul_le_mul_right _ hu
      have := h.2.1
      omega
  · simp
theorem fb_put {W wr : World} {u0 u : Nat} {ds : List UInt8} (h : FbIn W u0 u ds wr) (hl : ds.length < 65) (d : UInt8) (k : Nat) (hk : k = 65 - ds.length - 1) :
    Below W.heap.size W (wr.setCell ⟨W.heap.size, k, none⟩ (.int .u8 (ub d))) ∧ ∃ cs, Blk (wr.setCell ⟨W.heap.size, k, none⟩ (.int .u8 (ub d))) W.heap.size 194 cs ∧ cs.length = 65 ∧ cs.drop (65 - (d :: ds).length) = Bs (d :: ds) := by
  obtain ⟨_, _, hb, cs, hc, hcl, hd⟩ := h
  subst hk
  refine ⟨hb.setCell (Nat.le_refl _) _, _, hc.setCell _ _, by simpa using hcl, ?_⟩
  have e : 65 - (d :: ds).length = 65 - ds.length - 1 := by simp; omega
  rw [e, List.drop_eq_getElem_cons (by simp; omega)]
  rw [List.getElem_set_self, List.drop_set_of_lt (by omega), show 65 - ds.length - 1 + 1 = 65 - ds.length by omega, hd]
  rfl
theorem fb_round {W wr : World} {u0 u : Nat} {ds : List UInt8} (h : FbIn W u0 u ds wr) (hl : ds.length < 65) (hu : 16 ≤ u) (k : Nat) (hk : k = 65 - ds.length - 1) :
    FbIn W u0 (u / 16) (hexd (u % 16) :: ds) (wr.setCell ⟨W.heap.size, k, none⟩ (.int .u8 (ub (hexd (u % 16))))) := by
  obtain ⟨h1, h2⟩ := fb_put h hl (hexd (u % 16)) k hk
  refine ⟨?_, ?_, h1, h2⟩
  · rw [h.1, hexS_ge hu]; simp
  · refine Nat.le_trans ?_ h.2.1
    rw [List.length_cons, Nat.pow_succ, ← Nat.mul_assoc, Nat.mul_right_comm]
    exact Nat.mul_le_mul_right _ (by omega)
theorem fb_last {W wr : World} {u0 u : Nat} {ds : List UInt8} (h : FbIn W u0 u ds wr) (hl : ds.length < 65) (hu : u < 16) (k : Nat) (hk : k = 65 - ds.length - 1) :
    Src (wr.setCell ⟨W.heap.size, k, none⟩ (.int .u8 (ub (hexd u)))) 1 (some ⟨W.heap.size, k, none⟩) (65 - k) (Bs (hexS u0)) ∧ Below W.heap.size W (wr.setCell ⟨W.heap.size, k, none⟩ (.int .u8 (ub (hexd u)))) := by
  obtain ⟨h1, cs, hc, hcl, hd⟩ := fb_put h hl (hexd u) k hk
  have e : hexS u0 = hexd u :: ds := by rw [h.1, hexS_lt hu]; rfl
  refine ⟨⟨by rw [e]; simp; omega, fun _ => ⟨_, rfl, fun j v hj => ?_⟩, Bs_one _⟩, h1⟩
  have ha : (⟨W.heap.size, k, none⟩ : Addr).add j = ⟨W.heap.size, k + j, none⟩ := by unfold Addr.add; split <;> simp_all
  rw [ha]
  refine hc.cell _ _ ?_
  rw [e, ← hd, List.getElem?_drop] at hj
  rw [← hj]
  congr 1
  simp; omega
theorem fb_and (u : Nat) (h : u < 18446744073709551616) : bits .and .u64 (u : Int) 15 = ((u % 16 : Nat) : Int) := by
  show IntKind.u64.wrap ((BitVec.ofInt 64 (u : Int) &&& BitVec.ofInt 64 15).toNat : Int) = _
  have e1 : (BitVec.ofInt 64 (u : Int) &&& BitVec.ofInt 64 15).toNat = u % 16 := by
    rw [BitVec.toNat_and]
    have : (BitVec.ofInt 64 (u : Int)).toNat = u := by simp; omega
    rw [this]
    exact Nat.and_two_pow_sub_one_eq_mod u 4
  rw [e1]
  show ((u % 16 : Nat) : Int) % 18446744073709551616 = _
  omega
/-- A byte array cut from k on. -/
theorem run_cutAt (T n : Nat) (hu : Tryz.prog.underlying T = some (.array n 5)) (g k : Nat) (hk : k < n) (W : World) :
    (Instr.sliceAt T (.pointer (some ⟨g, 0, none⟩)) (some (.int .i64 (k : Int))) none none).run Tryz.prog W = .ok (.slice (some ⟨g, k, none⟩) (n - k) (n - k)) W := by
  have e1 : Tryz.prog.arrayLen T = n := by simp [Program.arrayLen, hu]
  have e2 : Tryz.prog.elem T = 5 := by simp [Program.elem, hu]
  have hs : (sizeOf 5).run Tryz.prog W = .ok 1 W := by kernel_rfl
  rw [run_sliceAt_array_l W T ⟨g, 0, none⟩ (by rw [e1, e2]; exact hu) .i64 (k : Int) (Int.natCast_nonneg _) (by rw [e1]; omega), e1, e2, hs]
  have ha : (⟨g, 0, none⟩ : Addr).add k = ⟨g, k, none⟩ := by unfold Addr.add; split <;> simp_all
  simp only [Result.andThen, slicedAt, Int.toNat_natCast]
  rw [if_neg (by omega), Nat.mul_one, ha]
def FbPost (W : World) (u0 : Nat) (e : Ending) (W' : World) : Prop := e = .returned (.tuple #[.slice none 0 0, .string ⟨(hexS u0).toArray⟩]) ∧ Below W.heap.size W W'
set_option maxRecDepth 100000 in
set_option maxHeartbeats 1000000 in
theorem fbits_16 (W : World) (u0 : Nat) (h0 : u0 < 18446744073709551616) (hT : Deb W) : Calls Tryz.prog 167 #[.slice none 0 0, .int .u64 u0, .int .i64 16, .bool false, .bool false] W (FbPost W u0) := by
  have z65 := z65_eq
  have HT : Hid (Deb (W.alloc (.cells zero65.toArray 194))) := by
    have h1 : W.cell? ⟨8, 15, none⟩ = some (.int .u8 4) := hT
    exact (World.cell?_alloc_some W _ _ (by rw [h1]; rfl)).trans h1
  clear hT
  have HB : Hid (FbIn W u0 u0 [] (W.alloc (.cells zero65.toArray 194))) := fb_start W _ u0 ((Below.refl _ _).alloc (Nat.le_refl _) _) (Blk.new W _ _)
  go_enter Tryz.func167, Tryz.ntmps167
  go_wp2_with (first | (go_at_call 198; refine (run_pow2 _).mono ?_; rintro e w' ⟨rfl, rfl⟩) | (go_at_call 199; refine (tz_16 _ HT.out).mono ?_; rintro e w' ⟨rfl, rfl⟩))
  generalize W.alloc (.cells zero65.toArray 194) = W0 at HB HT ⊢
  go_loopw [1, 13] (fun v i wr => ∃ (u : Nat) (ds : List UInt8), v = .int .u64 u ∧ i = .int .i64 (65 - ds.length : Nat) ∧ (1 ≤ u ∨ ds = []) ∧ FbIn W u0 u ds wr) (fun v _ _ => (intOf v).toNat)
  case atStart => exact ⟨u0, [], rfl, rfl, .inr rfl, HB.out⟩
  case round =>
    obtain ⟨u, ds, rfl, rfl, hu, hI⟩ := hrel
    have hs := hI.small h0 hu
    clear HB z65
    have u64 : (u : Int) < 18446744073709551616 := by
      have h1 : u * 1 ≤ u * 16 ^ ds.length := Nat.mul_le_mul_left _ (Nat.one_le_pow _ _ (by omega))
      have := hI.2.1
      omega
    obtain ⟨k, hk⟩ : ∃ k, k = 65 - ds.length - 1 := ⟨_, rfl⟩
    have hk1 : 65 - ds.length = k + 1 := by omega
    have l1 : k < 65 := by omega
    have l1' : (k : Int) < 65 := by omega
    obtain ⟨x, hx⟩ : ∃ x, wr.cell? ⟨W.heap.size, k, none⟩ = some x := by
      obtain ⟨_, _, _, cs, hc, hcl, _⟩ := hI
      exact ⟨_, hc.cell k _ (List.getElem?_eq_getElem (show k < cs.length by omega))⟩
    have hf : wr.frozen? ⟨W.heap.size, k, none⟩ = false := by
      obtain ⟨_, _, _, cs, hc, hcl, _⟩ := hI
      exact hc.frozen k
    rw [hk1]
    have HI := Lib.hid hI
    have HK := Lib.hid hk
    have HU := Lib.hid hu
    have HS := Lib.hid hs
    clear hI hk hu hs hk1
    by_cases hlt : u < 16
    · have l2 : (u : Int) < 16 := by omega
      have l3 : ¬ (16 : Int) ≤ (u : Int) := by omega
      have hsl := run_cutAt 194 65 Tryz.underlying194 W.heap.size k l1
      go_wp2_with (first | (refine wpl_index rfl 9 _ _ rfl (.int .u8 (ub (hexd u))) (run_digit36 _ u hlt) ?_) | (refine wpl_conv rfl 22 9 _ rfl (.string ⟨(hexS u0).toArray⟩) (run_str _ _ _ _ _ (fb_last HI.out (by have := HS.out; omega) hlt k HK.out).1) ?_))
      go_ret2
      exact ⟨rfl, (fb_last HI.out (by have := HS.out; omega) hlt k HK.out).2⟩
    · obtain ⟨m, hm⟩ : ∃ m, m = u % 16 := ⟨_, rfl⟩
      have l3 : (16 : Int) ≤ (u : Int) := by omega
      have q1 : bits .and .u64 (u : Int) 15 = (m : Int) := by rw [fb_and u (by omega), hm]
      have l4 : m < 16 := by omega
      have HM := Lib.hid hm
      clear hm
      go_wp2_with (refine wpl_index rfl 9 _ _ rfl (.int .u8 (ub (hexd m))) (run_digit36 _ m l4) ?_)
      go_roundw
      case measure => simp [intOf]; omega
      case rel =>
        have hr := fb_round HI.out (by have := HS.out; omega) (by omega) k HK.out
        rw [← HM.out] at hr
        exact ⟨u / 16, hexd m :: ds, by go_num, by rw [List.length_cons, show 65 - (ds.length + 1) = k by have := HK.out; omega], .inl (by omega), hr⟩
set_option maxHeartbeats 400000 in
theorem fint_16 (W : World) (u : Nat) (h : u < 9223372036854775808) (hT : Deb W) : Calls Tryz.prog 130 #[.int .i64 u, .int .i64 16] W fun e W' => e = .returned (.string ⟨(hexS u).toArray⟩) ∧ Below W.heap.size W W' := by
  have h1 : ¬ (u : Int) < 0 := by omega
  have h2 : (u : Int) < 9223372036854775808 := by omega
  have HT := Lib.hid hT
  clear hT
  have c0 : ∀ w, Deb w → Calls Tryz.prog 162 #[.int .i64 u, .int .i64 16] w fun e W' => e = .returned (.string ⟨(hexS u).toArray⟩) ∧ Below w.heap.size w W' := by
    intro w hw
    have HW := Lib.hid hw
    clear hw
    have e1 : IntKind.u64.wrap (u : Int) = (u : Int) := by show (u : Int) % 18446744073709551616 = _; omega
    go_enter Tryz.func162, Tryz.ntmps162
    go_wp2_with (go_at_call 167; refine (fbits_16 _ u (by omega) HW.out).mono ?_; rintro e w' ⟨rfl, hb⟩; have B := Lib.hid hb; clear hb)
    go_ret
    exact ⟨rfl, B.out⟩
  go_enter Tryz.func130, Tryz.ntmps130
  go_wp2_with (go_at_call 162; refine (c0 _ HT.out).mono ?_; rintro e w' ⟨rfl, hb⟩; have B := Lib.hid hb; clear hb)
  go_ret
  exact ⟨rfl, B.out⟩
set_option maxHeartbeats 400000 in
theorem fuint_16 (W : World) (u : Nat) (h : u < 18446744073709551616) (hT : Deb W) : Calls Tryz.prog 109 #[.int .u64 u, .int .i64 16] W fun e W' => e = .returned (.string ⟨(hexS u).toArray⟩) ∧ Below W.heap.size W W' := by
  have HT := Lib.hid hT
  clear hT
  have c0 : ∀ w, Deb w → Calls Tryz.prog 134 #[.int .u64 u, .int .i64 16] w fun e W' => e = .returned (.string ⟨(hexS u).toArray⟩) ∧ Below w.heap.size w W' := by
    intro w hw
    have HW := Lib.hid hw
    clear hw
    go_enter Tryz.func134, Tryz.ntmps134
    go_wp2_with (go_at_call 167; refine (fbits_16 _ u h HW.out).mono ?_; rintro e w' ⟨rfl, hb⟩; have B := Lib.hid hb; clear hb)
    go_ret
    exact ⟨rfl, B.out⟩
  go_enter Tryz.func109, Tryz.ntmps109
  go_wp2_with (go_at_call 134; refine (c0 _ HT.out).mono ?_; rintro e w' ⟨rfl, hb⟩; have B := Lib.hid hb; clear hb)
  go_ret
  exact ⟨rfl, B.out⟩
end Go.Proofs.YtpfoohfgochaiaaGreatDoor
