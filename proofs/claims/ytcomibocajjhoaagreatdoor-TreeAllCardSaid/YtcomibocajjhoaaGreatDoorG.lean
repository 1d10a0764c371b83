/- guard: Must, Fail; a reader of bytes. guard: the other answers of Bytes; Byte. guard.Do: what panics with a fault is told. -/
import Derived.Test.YtcomibocajjhoaaGreatDoorP2x
import Derived.Defers
import Derived.Recover
namespace Go.Proofs.YtcomibocajjhoaaGreatDoor
open Go.RowKit
/-- A reader of bytes. -/
def RdAt (W : World) (B g : Nat) (v : Value) (bs : List UInt8) : Prop :=
  Blk W g 158 [v] ∧ RowQ W B 5 1 v bs.length (Bs bs) ∧ v.ownBlock ≠ some g ∧ B ≤ g
set_option maxHeartbeats 400000 in
theorem must_true (W : World) (e : Int) : Calls Tryz.prog 169 #[.bool true, .int .i64 e] W fun e' W' => e' = .returned (.tuple #[]) ∧ W' = W := by
  go_enter Tryz.func169, Tryz.ntmps169
  go_wp2
  first | go_end0 | refine bodyPost_ret (results_none rfl _ _ _) rfl ?_
  exact ⟨rfl, rfl⟩
set_option maxHeartbeats 400000 in
theorem left_any (W : World) (g : Nat) (A : Option Addr) (n c : Nat) (h : W.cell? ⟨g, 0, none⟩ = some (.slice A n c)) (_hn : n ≤ 140737488355328) :
    Calls Tryz.prog 93 #[.pointer (some ⟨g, 0, none⟩)] W fun e W' => e = .returned (.int .i64 n) ∧ W' = W := by
  go_enter Tryz.func93, Tryz.ntmps93
  go_wp2
  go_ret
  exact ⟨rfl, rfl⟩
set_option maxHeartbeats 400000 in
theorem gnew_row (W : World) (B : Nat) (A : Option Addr) (n c : Nat) (rs : List UInt8) (h : RowQ W B 5 1 (.slice A n c) n (Bs rs)) (hn : n ≤ 140737488355328) :
    Calls Tryz.prog 92 #[.slice A n c] W fun e W' => ∃ g v, e = .returned (.pointer (some ⟨g, 0, none⟩)) ∧ W.heap.size ≤ g ∧ RdAt W' W.heap.size g v rs ∧ Below W.heap.size W W' := by
  have hl : rs.length = n := by have := h.1; simpa using this
  have H := Lib.hid h
  clear h
  go_enter Tryz.func92, Tryz.ntmps92
  go_wp2_with (go_at_call 130; refine (clone_row W B A n c rs H.out hn).mono ?_; rintro e w1 ⟨v1, rfl, hr1, hb1⟩; obtain ⟨A1, c1, rfl, hc1, hm1⟩ := hr1.shape; have R1 := Lib.hid hr1; have B1 := Lib.hid hb1; clear hr1 hb1)
  go_ret
  refine ⟨w1.heap.size, _, rfl, B1.out.size, ⟨Blk.new w1 158 [_], ?_, ?_, B1.out.size⟩, B1.out.alloc B1.out.size _⟩
  · rw [hl]; exact R1.out.alloc _
  · intro e; have := (R1.out.lt _ e).2; omega
set_option maxHeartbeats 400000 in
theorem fail_any (W : World) (e : Int) : Calls Tryz.prog 83 #[.int .i64 e] W fun e' W' => e' = .panicked [{ v := .iface 152 (.agg #[.int .i64 e]), recovered := false }] ∧ W' = W := by
  go_enter Tryz.func83, Tryz.ntmps83
  go_wp2
  exact ⟨rfl, rfl, rfl⟩
set_option maxHeartbeats 400000 in
theorem must_false (W : World) (e : Int) : Calls Tryz.prog 169 #[.bool false, .int .i64 e] W fun e' W' => e' = .panicked [{ v := .iface 152 (.agg #[.int .i64 e]), recovered := false }] ∧ W' = W := by
  go_enter Tryz.func169, Tryz.ntmps169
  go_wp2_with (go_at_call 83; refine (fail_any W e).mono ?_; rintro e' w' ⟨rfl, rfl⟩)
  exact ⟨rfl, rfl, rfl⟩
theorem RowQ.take {w : World} {B : Nat} {A : Option Addr} {n c : Nat} {bs : List UInt8} (h : RowQ w B 5 1 (.slice A n c) n (Bs bs)) (k : Nat) (hk : k ≤ n) (h0 : 0 < k) : RowQ w B 5 1 (.slice A k c) k (Bs (bs.take k)) := by
  obtain ⟨h1, h2⟩ := h
  refine ⟨by simp at h1 ⊢; omega, .inr ?_⟩
  rcases h2 with ⟨_, rfl⟩ | ⟨g, o, cap, cur, hv, hb, hg, ha, hm, hs, ht⟩
  · omega
  · injection hv with e1 e2 e3
    subst e1 e3
    refine ⟨g, o, c, cur, rfl, hb, hg, by omega, hm, hs, ?_⟩
    have : Bs (bs.take k) = (Bs bs).take k := by simp [Bs]
    rw [this, ← ht, List.take_take, show min k (n * 1) = k * 1 by omega]
def BytesPost (W : World) (B g n : Nat) (v : Value) (bs : List UInt8) (e : Ending) (W' : World) : Prop :=
  ∃ v1 v2, e = .returned v1 ∧ RowQ W' W.heap.size 5 1 v1 n (Bs (bs.take n)) ∧ RdAt W' B g v2 (bs.drop n) ∧ Kept2 W W' g none ∧ v2.ownBlock = v.ownBlock
theorem bytes_end {W w1 : World} {B g n c : Nat} {A : Option Addr} {bs : List UInt8} {v1 v2 : Value} (h : RdAt W B g (.slice A bs.length c) bs) (h0 : 0 < n) (hn : n ≤ bs.length) (hc : n ≤ c) (hb : Below W.heap.size W w1)
    (hr : RowQ w1 W.heap.size 5 1 v1 n (Bs (bs.take n))) (hv : v2 = .slice (if c = n then A else A.map (·.add n)) (bs.length - n) (c - n)) :
    BytesPost W B g n (.slice A bs.length c) bs (.returned v1) (w1.setCell ⟨g, 0, none⟩ v2) := by
  have h1 := h.1.below hb
  have hq := (h.2.1.below hb).drop n hn (by omega)
  have e1 : (Bs bs).drop (n * 1) = Bs (bs.drop n) := by simp [Bs]
  have e3 : bs.length - n = (bs.drop n).length := by simp
  have e2 : (if c = n then A else A.map (·.add (n * 1))) = (if c = n then A else A.map (·.add n)) := by rw [Nat.mul_one]
  rw [e1, e2, ← hv, e3] at hq
  have ho : v2.ownBlock = (Value.slice A bs.length c).ownBlock := by
    subst hv
    rcases A with _ | a
    · by_cases e : c = n <;> simp [Value.ownBlock]
    · by_cases e : c = n
      · simp [Value.ownBlock, e]
      · have : (a.add n).block = a.block := by unfold Addr.add; split <;> rfl
        simp [Value.ownBlock, e, this]
  have hg := h.1.lt
  have hne : v2.ownBlock ≠ some g := by rw [ho]; exact h.2.2.1
  refine ⟨v1, v2, rfl, ?_, ⟨h1.setCell 0 v2, hq.far hne _, hne, h.2.2.2⟩, (((Kept2.refl W g none).below hb)).setCell 0 _, ho⟩
  exact hr.far (fun e => by have := (hr.lt _ e).1; simp at this; omega) _
set_option maxHeartbeats 400000 in
theorem bytes_some (W : World) (B g : Nat) (A : Option Addr) (c n : Nat) (bs : List UInt8) (h : RdAt W B g (.slice A bs.length c) bs) (h0 : 0 < n) (hn : n ≤ bs.length) (hl : bs.length ≤ 140737488355328) :
    Calls Tryz.prog 131 #[.pointer (some ⟨g, 0, none⟩), .int .i64 n] W (BytesPost W B g n (.slice A bs.length c) bs) := by
  have d0 := h.1.cell 0 _ rfl
  have f0 := h.1.frozen 0
  have q0 : n ≤ c := by obtain ⟨A1, c1, e, h1, _⟩ := h.2.1.shape; injection e with _ _ e; omega
  have q1 : (0 : Int) ≤ (n : Int) := by omega
  have q2 : (n : Int) ≤ (bs.length : Int) := by omega
  have q3 : ((n : Int) == 0) = false := by simp; omega
  have H := Lib.hid h
  clear h
  go_enter Tryz.func131, Tryz.ntmps131
  go_wp2_with (first
    | (go_at_call 169; refine (must_true _ _).mono ?_; rintro e w' ⟨rfl, rfl⟩)
    | (go_at_call 93; refine (left_any _ g A bs.length c d0 hl).mono ?_; rintro e w' ⟨rfl, rfl⟩)
    | (go_at_call 130; refine (clone_row _ B A n c (bs.take n) (H.out.2.1.take n hn h0) (by omega)).mono ?_; rintro e w1 ⟨v1, rfl, hr1, hb1⟩; obtain ⟨A1, c1, rfl, hc1, hm1⟩ := hr1.shape; have d1 := (H.out.1.below hb1).cell 0 _ rfl; have f1 := (H.out.1.below hb1).frozen 0; have R1 := Lib.hid hr1; have B1 := Lib.hid hb1; clear hr1 hb1 d0 f0))
  all_goals go_ret
  · have e : c = n := by assumption
    subst e
    exact bytes_end H.out h0 hn q0 B1.out R1.out (by simp)
  · have e : ¬ c = n := by assumption
    exact bytes_end H.out h0 hn q0 B1.out R1.out (by simp [e])
end Go.Proofs.YtcomibocajjhoaaGreatDoor
namespace Go.Proofs.YtcomibocajjhoaaGreatDoor
open Go.RowKit
def faultOf (e : Int) : Ending := .panicked [{ v := .iface 152 (.agg #[.int .i64 e]), recovered := false }]
theorem must_any (W : World) (b : Bool) (e : Int) : Calls Tryz.prog 169 #[.bool b, .int .i64 e] W fun e' W' => e' = (bif b then .returned (.tuple #[]) else faultOf e) ∧ W' = W := by
  cases b
  · exact must_false W e
  · exact must_true W e
set_option maxHeartbeats 400000 in
theorem bytes_neg (W : World) (g : Nat) (n : Int) (hn : n < 0) : Calls Tryz.prog 131 #[.pointer (some ⟨g, 0, none⟩), .int .i64 n] W fun e W' => e = faultOf 1 ∧ W' = W := by
  have q1 : ¬ (0 : Int) ≤ n := by omega
  go_enter Tryz.func131, Tryz.ntmps131
  go_wp2_with (go_at_call 169; refine (must_any _ _ _).mono ?_; rintro e w' ⟨he, rfl⟩; (try simp only [qd] at he); simp only [cond_false, faultOf] at he; subst he)
  exact ⟨rfl, rfl, rfl⟩
set_option maxHeartbeats 400000 in
theorem bytes_more (W : World) (g : Nat) (A : Option Addr) (m c : Nat) (n : Int) (h : W.cell? ⟨g, 0, none⟩ = some (.slice A m c)) (hm : m ≤ 140737488355328) (hn : (m : Int) < n) : Calls Tryz.prog 131 #[.pointer (some ⟨g, 0, none⟩), .int .i64 n] W fun e W' => e = faultOf 2 ∧ W' = W := by
  have q1 : (0 : Int) ≤ n := by omega
  have q2 : ¬ n ≤ (m : Int) := by omega
  have qd : decide (n ≤ (m : Int)) = false := by simp; omega
  go_enter Tryz.func131, Tryz.ntmps131
  go_wp2_with (first
    | (go_at_call 93; refine (left_any _ g A m c h hm).mono ?_; rintro e w' ⟨rfl, rfl⟩)
    | (go_at_call 169; refine (must_any _ _ _).mono ?_; rintro e w' ⟨he, rfl⟩; (try simp only [qd] at he); simp only [cond_true, cond_false, faultOf] at he; subst he))
  exact ⟨rfl, rfl, rfl⟩
set_option maxHeartbeats 400000 in
theorem bytes_none (W : World) (g : Nat) (A : Option Addr) (m c : Nat) (h : W.cell? ⟨g, 0, none⟩ = some (.slice A m c)) (hm : m ≤ 140737488355328) : Calls Tryz.prog 131 #[.pointer (some ⟨g, 0, none⟩), .int .i64 0] W fun e W' => e = .returned (.slice none 0 0) ∧ W' = W := by
  have q1 : (0 : Int) ≤ (m : Int) := by omega
  go_enter Tryz.func131, Tryz.ntmps131
  go_wp2_with (first
    | (go_at_call 93; refine (left_any _ g A m c h hm).mono ?_; rintro e w' ⟨rfl, rfl⟩)
    | (go_at_call 169; refine (must_any _ _ _).mono ?_; rintro e w' ⟨he, rfl⟩; (try simp only [qd] at he); simp only [cond_true, faultOf] at he; subst he))
  go_ret
  exact ⟨rfl, rfl⟩
set_option maxHeartbeats 400000 in
theorem byte_none (W : World) (g : Nat) (A : Option Addr) (c : Nat) (h : W.cell? ⟨g, 0, none⟩ = some (.slice A 0 c)) : Calls Tryz.prog 94 #[.pointer (some ⟨g, 0, none⟩)] W fun e W' => e = faultOf 2 ∧ W' = W := by
  go_enter Tryz.func94, Tryz.ntmps94
  go_wp2_with (go_at_call 131; refine (bytes_more _ g A 0 c 1 h (by omega) (by omega)).mono ?_; rintro e w' ⟨he, rfl⟩; unfold faultOf at he; subst he)
  exact ⟨rfl, rfl, rfl⟩
/-- The first byte of a row. -/
theorem RowQ.first {w : World} {B : Nat} {v : Value} {b : UInt8} (h : RowQ w B 5 1 v 1 (Bs [b])) : ∃ g o c, v = .slice (some ⟨g, o, none⟩) 1 c ∧ w.cell? ⟨g, o, none⟩ = some (.int .u8 (ub b)) := by
  obtain ⟨A, c, rfl, _, _⟩ := h.shape
  have hs := h.src (Bs_one _)
  rcases h.2 with ⟨_, h0⟩ | ⟨g, o, cap, cur, hv, _⟩
  · omega
  · injection hv with e1 _ _
    subst e1
    obtain ⟨ad, e, hc⟩ := hs.2.1 (by omega)
    injection e with e
    subst e
    exact ⟨g, o, c, rfl, by simpa [Addr.add] using hc 0 _ rfl⟩
set_option maxHeartbeats 400000 in
theorem byte_some (W : World) (B g : Nat) (A : Option Addr) (c : Nat) (b : UInt8) (bs : List UInt8) (h : RdAt W B g (.slice A (b :: bs).length c) (b :: bs)) (hl : (b :: bs).length ≤ 140737488355328) :
    Calls Tryz.prog 94 #[.pointer (some ⟨g, 0, none⟩)] W fun e W' => e = .returned (.int .u8 (ub b)) ∧ ∃ v2, RdAt W' B g v2 bs ∧ Kept2 W W' g none ∧ v2.ownBlock = (Value.slice A (b :: bs).length c).ownBlock := by
  have H := Lib.hid h
  clear h
  go_enter Tryz.func94, Tryz.ntmps94
  go_wp2_with (go_at_call 131; refine (bytes_some W B g A c 1 (b :: bs) H.out (by omega) (by simp) hl).mono ?_; rintro e w1 ⟨v1, v2, rfl, hr1, P⟩; obtain ⟨g1, o1, c1, rfl, hc1⟩ := RowQ.first hr1; have P1 := Lib.hid P; clear hr1 P)
  go_ret
  exact ⟨rfl, v2, P1.out.1, P1.out.2.1, P1.out.2.2⟩
end Go.Proofs.YtcomibocajjhoaaGreatDoor
namespace Go.Proofs.YtcomibocajjhoaaGreatDoor
open Go.RowKit
set_option maxRecDepth 20000 in
set_option maxHeartbeats 800000 in
theorem do1_fault (p : Nat) (x e : Int) (older : List PanicEntry) (w : World) (hb : Blk w p 41 [.int .i64 x]) :
    CallsD Tryz.prog 124 #[.pointer (some ⟨p, 0, none⟩)] (.panicking ({ v := .iface 152 (.agg #[.int .i64 e]), recovered := false } :: older)) w fun e' u' w' =>
      e' = .returned (.tuple #[]) ∧ u' = .panicking ({ v := .iface 152 (.agg #[.int .i64 e]), recovered := true } :: older) ∧ Blk w' p 41 [.int .i64 e] ∧ Kept2 w w' p none := by
  refine callsD_of_wpS Tryz.func124 rfl fun c₀ cs hu => ?_
  apply wpS_seq
  apply wpS_region
  simp [wpOpsS, go_sem, recoverD, hu, Tryz.ntmps124, Exit.thenS]
  have d0 := hb.cell 0 _ rfl
  have f0 := hb.frozen 0
  have hlt := hb.lt
  have HB := Lib.hid hb
  clear hb
  refine wpS_of_wp ?_
  generalize hA : ({ tmps := _, defers := [] } : Act) = a0
  have hA2 : a0 = { tmps := #[.pointer (some ⟨p, 0, none⟩), .iface 152 (.agg #[.int .i64 e]), undef, undef, .iface 152 (.agg #[.int .i64 e]), undef, undef, undef, undef, undef, undef, undef, undef, undef, undef, undef], defers := [] } := by rw [← hA]; rfl
  subst hA2
  have hta : ∀ w, (Instr.typeAssert (.iface 152 (.agg #[.int .i64 e])) 20 152 true).run Tryz.prog w = .ok (.tuple #[.agg #[.int .i64 e], .bool true]) w := fun _ => rfl
  clear hA
  have hne : p ≠ w.heap.size := by omega
  have hne2 : w.heap.size ≠ p := by omega
  go_wp2
  have q1 : Blk ((w.setCell ⟨p, 0, none⟩ (.int .i64 e)).alloc (.cells #[.int .i64 e] 152)) p 41 [.int .i64 e] := (HB.out.setCell 0 _).alloc _
  have q2 : Kept2 w ((w.setCell ⟨p, 0, none⟩ (.int .i64 e)).alloc (.cells #[.int .i64 e] 152)) p none := ((Kept2.refl w p none).setCell 0 _).below ((Below.refl _ _).alloc (Nat.le_refl _) _)
  generalize (w.setCell ⟨p, 0, none⟩ (.int .i64 e)).alloc (.cells #[.int .i64 e] 152) = w9 at q1 q2 ⊢
  simp [bodyPostS, results, Tryz.results124, q1, q2]
set_option maxRecDepth 20000 in
set_option maxHeartbeats 800000 in
theorem do1_idle (p : Nat) (w : World) :
    CallsD Tryz.prog 124 #[.pointer (some ⟨p, 0, none⟩)] .returning w fun e' u' w' => e' = .returned (.tuple #[]) ∧ u' = .returning ∧ Below w.heap.size w w' := by
  refine callsD_of_wpS Tryz.func124 rfl fun c₀ cs hu => ?_
  apply wpS_seq
  apply wpS_region
  simp [wpOpsS, go_sem, recoverD, hu, Tryz.ntmps124, Exit.thenS]
  refine wpS_of_wp ?_
  generalize hA : ({ tmps := _, defers := [] } : Act) = a0
  have hA2 : a0 = { tmps := #[.pointer (some ⟨p, 0, none⟩), Value.nilIface, undef, undef, Value.nilIface, undef, undef, undef, undef, undef, undef, undef, undef, undef, undef, undef], defers := [] } := by rw [← hA]; rfl
  subst hA2
  have hta : ∀ w, (Instr.typeAssert Value.nilIface 20 152 true).run Tryz.prog w = .ok (.tuple #[.agg #[.int .i64 0], .bool false]) w := fun _ => rfl
  clear hA
  go_wp2
  have q2 : Below w.heap.size w (w.alloc (.cells #[.int .i64 0] 152)) := (Below.refl _ _).alloc (Nat.le_refl _) _
  simp [bodyPostS, results, Tryz.results124, q2]
  cases c₀
  simp_all
set_option maxRecDepth 20000 in
set_option maxHeartbeats 800000 in
/-- What is called panics with a fault: its code is told. -/
theorem do_fault (W : World) (k : Nat) (cap : Array Value) (e : Int) (R : World → Prop)
    (hc : ∀ w, (callFunc k cap).run Tryz.prog w = .ok (.enter k cap) w) (hk : Calls Tryz.prog k cap (W.alloc (.cells #[.int .i64 0] 41)) fun e' W2 => e' = faultOf e ∧ Blk W2 W.heap.size 41 [.int .i64 0] ∧ R W2) :
    Calls Tryz.prog 81 #[.func (.func k) #[] cap] W fun e' W' => e' = .returned (.int .i64 e) ∧ ∃ W2, R W2 ∧ Kept2 W2 W' W.heap.size none := by
  have hmf : ∀ (fn : Fn) (first cap : Array Value) (w : World), (Instr.makeFunc fn first cap).run Tryz.prog w = .ok (.func fn first cap) w := fun _ _ _ _ => rfl
  go_enter_defers Tryz.func81, Tryz.ntmps81
  go_wp2_with (refine hk.mono ?_; rintro e' W2 ⟨he, hb, hq⟩; unfold faultOf at he; subst he; have HB := Lib.hid hb; have HQ := Lib.hid hq; clear hb hq)
  refine leaves_cons (f := 124) (args := #[.pointer (some ⟨W.heap.size, 0, none⟩)]) (by simp) (by simp [go_sem]) ?_
  refine (do1_fault W.heap.size 0 e [] W2 HB.out).mono ?_
  rintro e' u' W3 ⟨rfl, rfl, hb3, hk3⟩
  have c3 := hb3.cell 0 _ rfl
  have r3 : ∃ W2, R W2 ∧ Kept2 W2 W3 W.heap.size none := ⟨W2, HQ.out, hk3⟩
  simp [Leaves, settle, results, Tryz.results81, go_sem, c3, r3]
set_option maxRecDepth 20000 in
set_option maxHeartbeats 800000 in
/-- What is called returns: all is well. -/
theorem do_ok (W : World) (k : Nat) (cap : Array Value) (R : World → Prop)
    (hc : ∀ w, (callFunc k cap).run Tryz.prog w = .ok (.enter k cap) w) (hk : Calls Tryz.prog k cap (W.alloc (.cells #[.int .i64 0] 41)) fun e' W2 => e' = .returned (.tuple #[]) ∧ Blk W2 W.heap.size 41 [.int .i64 0] ∧ R W2) :
    Calls Tryz.prog 81 #[.func (.func k) #[] cap] W fun e' W' => e' = .returned (.int .i64 0) ∧ ∃ W2, R W2 ∧ Kept2 W2 W' W.heap.size none := by
  have hmf : ∀ (fn : Fn) (first cap : Array Value) (w : World), (Instr.makeFunc fn first cap).run Tryz.prog w = .ok (.func fn first cap) w := fun _ _ _ _ => rfl
  go_enter_defers Tryz.func81, Tryz.ntmps81
  go_wp2_with (refine hk.mono ?_; rintro e' W2 ⟨rfl, hb, hq⟩; have d0 := hb.cell 0 _ rfl; have f0 := hb.frozen 0; have HB := Lib.hid hb; have HQ := Lib.hid hq; clear hb hq)
  refine leaves_cons (f := 124) (args := #[.pointer (some ⟨W.heap.size, 0, none⟩)]) (by simp) (by simp [go_sem]) ?_
  have hb2 : Blk (W2.setCell ⟨W.heap.size, 0, none⟩ (.int .i64 0)) W.heap.size 41 [.int .i64 0] := HB.out.setCell 0 _
  have hk2 : Kept2 W2 (W2.setCell ⟨W.heap.size, 0, none⟩ (.int .i64 0)) W.heap.size none := (Kept2.refl _ _ _).setCell 0 _
  refine (do1_idle W.heap.size _).mono ?_
  rintro e' u' W3 ⟨rfl, rfl, hb3⟩
  have c3 := (hb2.below hb3).cell 0 _ rfl
  have r3 : ∃ W2, R W2 ∧ Kept2 W2 W3 W.heap.size none := ⟨W2, HQ.out, hk2.below hb3⟩
  simp [Leaves, settle, results, Tryz.results81, go_sem, c3, r3]
end Go.Proofs.YtcomibocajjhoaaGreatDoor
