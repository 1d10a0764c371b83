/- A row of noughts is made, and filled. -/
import Derived.Test.YtpfoohfgochaiaaGreatDoorCm
import Derived.Laws.MakeOwn
namespace Go.Proofs.YtpfoohfgochaiaaGreatDoor
open Go.RowKit
theorem ub_of (c : Int) (h0 : 0 ≤ c) (h1 : c < 256) : ∃ x : UInt8, c = ub x := ⟨UInt8.ofNat c.toNat, by unfold ub; rw [UInt8.toNat_ofNat']; omega⟩
/-- A row of noughts is made. -/
theorem run_make_bytes (w : World) (n : Nat) (h : n ≤ 1048576) : (Instr.makeSlice 22 (.int .i64 (n : Int)) (.int .i64 (n : Int))).run Tryz.prog w =
    .ok (.slice (some ⟨w.heap.size, 0, none⟩) n n) (w.alloc (.cells (Bs (List.replicate n 0)).toArray 5)) := by
  obtain ⟨i, hi, hz, hs, hb⟩ : ∃ i, Tryz.prog.info? 5 = some i ∧ i.zero = some (.int .u8 0) ∧ i.size = 1 ∧ i.bytes = 1 := by
    have := Tryz.info5
    cases hi : Tryz.prog.info? 5 with
    | none => rw [hi] at this; cases this
    | some i =>
      rw [hi] at this
      have h2 := Option.some.inj this
      simp only [Prod.mk.injEq] at h2
      exact ⟨i, rfl, h2.1, h2.2.1, h2.2.2⟩
  have hr := run_make (P := Tryz.prog) w 22 5 i (.int .u8 0) Tryz.underlying22 hi hz .i64 .i64 n n (by omega) (by omega) (by rw [hb]; omega) (by omega)
  have hm : madeCells (Value.int .u8 0).cells n = (Bs (List.replicate n 0)).toArray := by
    apply Array.ext
    · simp [madeCells]
    · intro j h1 h2
      have e : (Value.int .u8 0).cells = #[.int .u8 0] := rfl
      simp [madeCells, Bs, ub, e, Nat.mod_one]
  rw [hr, hs, Int.toNat_natCast, Nat.mul_one, hm]
theorem Blk.src {w : World} {g : Nat} {t : TypeId} {cs : List Value} (h : Blk w g t cs) (h1 : ∀ v ∈ cs, v.oneCell' = true) (n : Nat) (hn : cs.length = n) : Src w 1 (some ⟨g, 0, none⟩) n cs :=
  ⟨by omega, fun _ => ⟨_, rfl, fun j u hu => by
    have ha : (⟨g, 0, none⟩ : Addr).add j = ⟨g, j, none⟩ := by unfold Addr.add; split <;> simp_all
    rw [ha]; exact h.cell j u hu⟩, h1⟩
/-- A remainder, made one that is not below 0. -/
theorem tmod_round (n m : Int) (hm : 0 < m) (h2 : m ≤ 1000000) : ∃ q : Nat, (q : Int) < m ∧ (wrap64 (n.tmod m + m)).tmod m = (q : Int) := by
  have h : -m < n.tmod m ∧ n.tmod m < m := by
    rcases Int.le_total 0 n with h | h
    · rw [Int.tmod_eq_emod_of_nonneg h]
      have := Int.emod_nonneg n (show m ≠ 0 by omega)
      have := Int.emod_lt_of_pos n hm
      omega
    · have e : n = -(-n) := by omega
      rw [e, Int.neg_tmod, Int.tmod_eq_emod_of_nonneg (by omega)]
      have := Int.emod_nonneg (-n) (show m ≠ 0 by omega)
      have := Int.emod_lt_of_pos (-n) hm
      omega
  have hw : wrap64 (n.tmod m + m) = n.tmod m + m := by unfold wrap64; omega
  rw [hw, Int.tmod_eq_emod_of_nonneg (by omega)]
  have h3 := Int.emod_nonneg (n.tmod m + m) (show m ≠ 0 by omega)
  have h4 := Int.emod_lt_of_pos (n.tmod m + m) hm
  exact ⟨((n.tmod m + m) % m).toNat, by omega, by omega⟩
/-- The row while it is filled. -/
def fillF (f : Nat → UInt8) (n k : Nat) : List UInt8 := (List.range k).map f ++ List.replicate (n - k) 0
theorem fillF_len (f : Nat → UInt8) (n k : Nat) (h : k ≤ n) : (fillF f n k).length = n := by simp [fillF]; omega
theorem fillF_set (f : Nat → UInt8) (n k : Nat) (h : k < n) : (fillF f n k).set k (f k) = fillF f n (k + 1) := by
  unfold fillF
  rw [show n - k = (n - (k + 1)) + 1 by omega, List.replicate_succ, List.set_append_right _ _ (by simp), List.length_map, List.length_range, Nat.sub_self, List.set_cons_zero, List.range_succ, List.map_append, List.append_assoc]
  rfl
theorem fillF_at (f : Nat → UInt8) (n k : Nat) (h : k < n) : gb (fillF f n k) k = 0 := by
  unfold gb fillF
  rw [List.getD_eq_getElem?_getD, List.getElem?_append_right (by simp), List.length_map, List.length_range, Nat.sub_self, show n - k = (n - (k + 1)) + 1 by omega, List.replicate_succ]
  rfl
theorem fillF_zero (f : Nat → UInt8) (n : Nat) : fillF f n 0 = List.replicate n 0 := by simp [fillF]
theorem fillF_all (f : Nat → UInt8) (n : Nat) : fillF f n n = (List.range n).map f := by simp [fillF]
end Go.Proofs.YtpfoohfgochaiaaGreatDoor
