/- guard: Must, Fail; a reader of bytes. -/
import Derived.Test.YtpfoohfgochaiaaGreatDoorHn
namespace Go.Proofs.YtpfoohfgochaiaaGreatDoor
open Go.RowKit
/-- A reader of bytes. -/
def RdAt (W : World) (B g : Nat) (v : Value) (bs : List UInt8) : Prop :=
  Blk W g 107 [v] ∧ RowQ W B 5 1 v bs.length (Bs bs) ∧ v.ownBlock ≠ some g ∧ B ≤ g
set_option maxHeartbeats 400000 in
theorem must_true (W : World) (e : Int) : Calls Tryz.prog 31 #[.bool true, .int .i64 e] W fun e' W' => e' = .returned (.tuple #[]) ∧ W' = W := by
  go_enter Tryz.func31, Tryz.ntmps31
  go_wp2
  first | go_end0 | refine bodyPost_ret (results_none rfl _ _ _) rfl ?_
  exact ⟨rfl, rfl⟩
set_option maxHeartbeats 400000 in
theorem left_any (W : World) (g : Nat) (A : Option Addr) (n c : Nat) (h : W.cell? ⟨g, 0, none⟩ = some (.slice A n c)) (_hn : n ≤ 140737488355328) :
    Calls Tryz.prog 39 #[.pointer (some ⟨g, 0, none⟩)] W fun e W' => e = .returned (.int .i64 n) ∧ W' = W := by
  go_enter Tryz.func39, Tryz.ntmps39
  go_wp2
  go_ret
  exact ⟨rfl, rfl⟩
set_option maxHeartbeats 400000 in
theorem gnew_row (W : World) (B : Nat) (A : Option Addr) (n c : Nat) (rs : List UInt8) (h : RowQ W B 5 1 (.slice A n c) n (Bs rs)) (hn : n ≤ 140737488355328) :
    Calls Tryz.prog 34 #[.slice A n c] W fun e W' => ∃ g v, e = .returned (.pointer (some ⟨g, 0, none⟩)) ∧ W.heap.size ≤ g ∧ RdAt W' W.heap.size g v rs ∧ Below W.heap.size W W' := by
  have hl : rs.length = n := by have := h.1; simpa using this
  have H := Lib.hid h
  clear h
  go_enter Tryz.func34, Tryz.ntmps34
  go_wp2_with (go_at_call 90; refine (clone_row W B A n c rs H.out hn).mono ?_; rintro e w1 ⟨v1, rfl, hr1, hb1⟩; obtain ⟨A1, c1, rfl, hc1, hm1⟩ := hr1.shape; have R1 := Lib.hid hr1; have B1 := Lib.hid hb1; clear hr1 hb1)
  go_ret
  refine ⟨w1.heap.size, _, rfl, B1.out.size, ⟨Blk.new w1 107 [_], ?_, ?_, B1.out.size⟩, B1.out.alloc B1.out.size _⟩
  · rw [hl]; exact R1.out.alloc _
  · intro e; have := (R1.out.lt _ e).2; omega
set_option maxHeartbeats 400000 in
theorem fail_any (W : World) (e : Int) : Calls Tryz.prog 32 #[.int .i64 e] W fun e' W' => e' = .panicked [{ v := .iface 103 (.agg #[.int .i64 e]), recovered := false }] ∧ W' = W := by
  go_enter Tryz.func32, Tryz.ntmps32
  go_wp2
  exact ⟨rfl, rfl, rfl⟩
set_option maxHeartbeats 400000 in
theorem must_false (W : World) (e : Int) : Calls Tryz.prog 31 #[.bool false, .int .i64 e] W fun e' W' => e' = .panicked [{ v := .iface 103 (.agg #[.int .i64 e]), recovered := false }] ∧ W' = W := by
  go_enter Tryz.func31, Tryz.ntmps31
  go_wp2_with (go_at_call 32; refine (fail_any W e).mono ?_; rintro e' w' ⟨rfl, rfl⟩)
  exact ⟨rfl, rfl, rfl⟩
theorem RowQ.take {w : World} {B : Nat} {A : Option Addr} {n c : Nat} {bs : List UInt8} (h : RowQ w B 5 1 (.slice A n c) n (Bs bs)) (k : Nat) (hk : k ≤ n) (h0 : 0 < k) : RowQ w B 5 1 (.slice A k c) k (Bs (bs.take k)) := by
  obtain ⟨h1, h2⟩ := h
  refine ⟨by simp at h1 ⊢; omega, .inr ?_⟩
  rcases h2 with ⟨_, rfl⟩ | ⟨g, o, cap, cur, hv, hb, hg, ha, hm, hs, ht⟩
  · omega
  · injection hv with e1 e2 e3
    subst e1 e3
    refine ⟨g, o, c, cur, rfl, hb, hg, by omega, hm, hs, ?_⟩
    have : Bs (bs.take k) = (Bs bs).take k := by simp [Bs]
    rw [this, ← ht, List.take_take, show min k (n * 1) = k * 1 by omega]
def BytesPost (W : World) (B g n : Nat) (v : Value) (bs : List UInt8) (e : Ending) (W' : World) : Prop :=
  ∃ v1 v2, e = .returned v1 ∧ RowQ W' W.heap.size 5 1 v1 n (Bs (bs.take n)) ∧ RdAt W' B g v2 (bs.drop n) ∧ Kept2 W W' g none ∧ v2.ownBlock = v.ownBlock
theorem bytes_end {W w1 : World} {B g n c : Nat} {A : Option Addr} {bs : List UInt8} {v1 v2 : Value} (h : RdAt W B g (.slice A bs.length c) bs) (h0 : 0 < n) (hn : n ≤ bs.length) (hc : n ≤ c) (hb : Below W.heap.size W w1)
    (hr : RowQ w1 W.heap.size 5 1 v1 n (Bs (bs.take n))) (hv : v2 = .slice (if c = n then A else A.map (·.add n)) (bs.length - n) (c - n)) :
    BytesPost W B g n (.slice A bs.length c) bs (.returned v1) (w1.setCell ⟨g, 0, none⟩ v2) := by
  have h1 := h.1.below hb
  have hq := (h.2.1.below hb).drop n hn (by omega)
  have e1 : (Bs bs).drop (n * 1) = Bs (bs.drop n) := by simp [Bs]
  have e3 : bs.length - n = (bs.drop n).length := by simp
  have e2 : (if c = n then A else A.map (·.add (n * 1))) = (if c = n then A else A.map (·.add n)) := by rw [Nat.mul_one]
  rw [e1, e2, ← hv, e3] at hq
  have ho : v2.ownBlock = (Value.slice A bs.length c).ownBlock := by
    subst hv
    rcases A with _ | a
    · by_cases e : c = n <;> simp [Value.ownBlock]
    · by_cases e : c = n
      · simp [Value.ownBlock, e]
      · have : (a.add n).block = a.block := by unfold Addr.add; split <;> rfl
        simp [Value.ownBlock, e, this]
  have hg := h.1.lt
  have hne : v2.ownBlock ≠ some g := by rw [ho]; exact h.2.2.1
  refine ⟨v1, v2, rfl, ?_, ⟨h1.setCell 0 v2, hq.far hne _, hne, h.2.2.2⟩, (((Kept2.refl W g none).below hb)).setCell 0 _, ho⟩
  exact hr.far (fun e => by have := (hr.lt _ e).1; simp at this; omega) _
set_option maxHeartbeats 400000 in
theorem bytes_some (W : World) (B g : Nat) (A : Option Addr) (c n : Nat) (bs : List UInt8) (h : RdAt W B g (.slice A bs.length c) bs) (h0 : 0 < n) (hn : n ≤ bs.length) (hl : bs.length ≤ 140737488355328) :
    Calls Tryz.prog 38 #[.pointer (some ⟨g, 0, none⟩), .int .i64 n] W (BytesPost W B g n (.slice A bs.length c) bs) := by
  have d0 := h.1.cell 0 _ rfl
  have f0 := h.1.frozen 0
  have q0 : n ≤ c := by obtain ⟨A1, c1, e, h1, _⟩ := h.2.1.shape; injection e with _ _ e; omega
  have q1 : (0 : Int) ≤ (n : Int) := by omega
  have q2 : (n : Int) ≤ (bs.length : Int) := by omega
  have q3 : ((n : Int) == 0) = false := by simp; omega
  have H := Lib.hid h
  clear h
  go_enter Tryz.func38, Tryz.ntmps38
  go_wp2_with (first
    | (go_at_call 31; refine (must_true _ _).mono ?_; rintro e w' ⟨rfl, rfl⟩)
    | (go_at_call 39; refine (left_any _ g A bs.length c d0 hl).mono ?_; rintro e w' ⟨rfl, rfl⟩)
    | (go_at_call 90; refine (clone_row _ B A n c (bs.take n) (H.out.2.1.take n hn h0) (by omega)).mono ?_; rintro e w1 ⟨v1, rfl, hr1, hb1⟩; obtain ⟨A1, c1, rfl, hc1, hm1⟩ := hr1.shape; have d1 := (H.out.1.below hb1).cell 0 _ rfl; have f1 := (H.out.1.below hb1).frozen 0; have R1 := Lib.hid hr1; have B1 := Lib.hid hb1; clear hr1 hb1 d0 f0))
  all_goals go_ret
  · have e : c = n := by assumption
    subst e
    exact bytes_end H.out h0 hn q0 B1.out R1.out (by simp)
  · have e : ¬ c = n := by assumption
    exact bytes_end H.out h0 hn q0 B1.out R1.out (by simp [e])
end Go.Proofs.YtpfoohfgochaiaaGreatDoor
