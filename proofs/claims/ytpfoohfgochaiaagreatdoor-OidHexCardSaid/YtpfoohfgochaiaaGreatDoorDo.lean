/- guard.Do: what panics with a fault is told. -/
import Derived.Test.YtpfoohfgochaiaaGreatDoorGb
import Derived.Defers
import Derived.Recover
namespace Go.Proofs.YtpfoohfgochaiaaGreatDoor
open Go.RowKit
set_option maxRecDepth 20000 in
set_option maxHeartbeats 800000 in
theorem do1_fault (p : Nat) (x e : Int) (older : List PanicEntry) (w : World) (hb : Blk w p 34 [.int .i64 x]) :
    CallsD Tryz.prog 92 #[.pointer (some ⟨p, 0, none⟩)] (.panicking ({ v := .iface 103 (.agg #[.int .i64 e]), recovered := false } :: older)) w fun e' u' w' =>
      e' = .returned (.tuple #[]) ∧ u' = .panicking ({ v := .iface 103 (.agg #[.int .i64 e]), recovered := true } :: older) ∧ Blk w' p 34 [.int .i64 e] ∧ Kept2 w w' p none := by
  refine callsD_of_wpS Tryz.func92 rfl fun c₀ cs hu => ?_
  apply wpS_seq
  apply wpS_region
  simp [wpOpsS, go_sem, recoverD, hu, Tryz.ntmps92, Exit.thenS]
  have d0 := hb.cell 0 _ rfl
  have f0 := hb.frozen 0
  have hlt := hb.lt
  have HB := Lib.hid hb
  clear hb
  refine wpS_of_wp ?_
  generalize hA : ({ tmps := _, defers := [] } : Act) = a0
  have hA2 : a0 = { tmps := #[.pointer (some ⟨p, 0, none⟩), .iface 103 (.agg #[.int .i64 e]), undef, undef, .iface 103 (.agg #[.int .i64 e]), undef, undef, undef, undef, undef, undef, undef, undef, undef, undef, undef], defers := [] } := by rw [← hA]; rfl
  subst hA2
  have hta : ∀ w, (Instr.typeAssert (.iface 103 (.agg #[.int .i64 e])) 20 103 true).run Tryz.prog w = .ok (.tuple #[.agg #[.int .i64 e], .bool true]) w := fun _ => rfl
  clear hA
  have hne : p ≠ w.heap.size := by omega
  have hne2 : w.heap.size ≠ p := by omega
  go_wp2
  have q1 : Blk ((w.setCell ⟨p, 0, none⟩ (.int .i64 e)).alloc (.cells #[.int .i64 e] 103)) p 34 [.int .i64 e] := (HB.out.setCell 0 _).alloc _
  have q2 : Kept2 w ((w.setCell ⟨p, 0, none⟩ (.int .i64 e)).alloc (.cells #[.int .i64 e] 103)) p none := ((Kept2.refl w p none).setCell 0 _).below ((Below.refl _ _).alloc (Nat.le_refl _) _)
  generalize (w.setCell ⟨p, 0, none⟩ (.int .i64 e)).alloc (.cells #[.int .i64 e] 103) = w9 at q1 q2 ⊢
  simp [bodyPostS, results, Tryz.results92, q1, q2]
set_option maxRecDepth 20000 in
set_option maxHeartbeats 800000 in
theorem do1_idle (p : Nat) (w : World) :
    CallsD Tryz.prog 92 #[.pointer (some ⟨p, 0, none⟩)] .returning w fun e' u' w' => e' = .returned (.tuple #[]) ∧ u' = .returning ∧ Below w.heap.size w w' := by
  refine callsD_of_wpS Tryz.func92 rfl fun c₀ cs hu => ?_
  apply wpS_seq
  apply wpS_region
  simp [wpOpsS, go_sem, recoverD, hu, Tryz.ntmps92, Exit.thenS]
  refine wpS_of_wp ?_
  generalize hA : ({ tmps := _, defers := [] } : Act) = a0
  have hA2 : a0 = { tmps := #[.pointer (some ⟨p, 0, none⟩), Value.nilIface, undef, undef, Value.nilIface, undef, undef, undef, undef, undef, undef, undef, undef, undef, undef, undef], defers := [] } := by rw [← hA]; rfl
  subst hA2
  have hta : ∀ w, (Instr.typeAssert Value.nilIface 20 103 true).run Tryz.prog w = .ok (.tuple #[.agg #[.int .i64 0], .bool false]) w := fun _ => rfl
  clear hA
  go_wp2
  have q2 : Below w.heap.size w (w.alloc (.cells #[.int .i64 0] 103)) := (Below.refl _ _).alloc (Nat.le_refl _) _
  simp [bodyPostS, results, Tryz.results92, q2]
  cases c₀
  simp_all
set_option maxRecDepth 20000 in
set_option maxHeartbeats 800000 in
/-- What is called panics with a fault: its code is told. -/
theorem do_fault (W : World) (k : Nat) (cap : Array Value) (e : Int) (R : World → Prop)
    (hc : ∀ w, (callFunc k cap).run Tryz.prog w = .ok (.enter k cap) w) (hk : Calls Tryz.prog k cap (W.alloc (.cells #[.int .i64 0] 34)) fun e' W2 => e' = faultOf e ∧ Blk W2 W.heap.size 34 [.int .i64 0] ∧ R W2) :
    Calls Tryz.prog 29 #[.func (.func k) #[] cap] W fun e' W' => e' = .returned (.int .i64 e) ∧ ∃ W2, R W2 ∧ Kept2 W2 W' W.heap.size none := by
  have hmf : ∀ (fn : Fn) (first cap : Array Value) (w : World), (Instr.makeFunc fn first cap).run Tryz.prog w = .ok (.func fn first cap) w := fun _ _ _ _ => rfl
  go_enter_defers Tryz.func29, Tryz.ntmps29
  go_wp2_with (refine hk.mono ?_; rintro e' W2 ⟨he, hb, hq⟩; unfold faultOf at he; subst he; have HB := Lib.hid hb; have HQ := Lib.hid hq; clear hb hq)
  refine leaves_cons (f := 92) (args := #[.pointer (some ⟨W.heap.size, 0, none⟩)]) (by simp) (by simp [go_sem]) ?_
  refine (do1_fault W.heap.size 0 e [] W2 HB.out).mono ?_
  rintro e' u' W3 ⟨rfl, rfl, hb3, hk3⟩
  have c3 := hb3.cell 0 _ rfl
  have r3 : ∃ W2, R W2 ∧ Kept2 W2 W3 W.heap.size none := ⟨W2, HQ.out, hk3⟩
  simp [Leaves, settle, results, Tryz.results29, go_sem, c3, r3]
set_option maxRecDepth 20000 in
set_option maxHeartbeats 800000 in
/-- What is called returns: all is well. -/
theorem do_ok (W : World) (k : Nat) (cap : Array Value) (R : World → Prop)
    (hc : ∀ w, (callFunc k cap).run Tryz.prog w = .ok (.enter k cap) w) (hk : Calls Tryz.prog k cap (W.alloc (.cells #[.int .i64 0] 34)) fun e' W2 => e' = .returned (.tuple #[]) ∧ Blk W2 W.heap.size 34 [.int .i64 0] ∧ R W2) :
    Calls Tryz.prog 29 #[.func (.func k) #[] cap] W fun e' W' => e' = .returned (.int .i64 0) ∧ ∃ W2, R W2 ∧ Kept2 W2 W' W.heap.size none := by
  have hmf : ∀ (fn : Fn) (first cap : Array Value) (w : World), (Instr.makeFunc fn first cap).run Tryz.prog w = .ok (.func fn first cap) w := fun _ _ _ _ => rfl
  go_enter_defers Tryz.func29, Tryz.ntmps29
  go_wp2_with (refine hk.mono ?_; rintro e' W2 ⟨rfl, hb, hq⟩; have d0 := hb.cell 0 _ rfl; have f0 := hb.frozen 0; have HB := Lib.hid hb; have HQ := Lib.hid hq; clear hb hq)
  refine leaves_cons (f := 92) (args := #[.pointer (some ⟨W.heap.size, 0, none⟩)]) (by simp) (by simp [go_sem]) ?_
  have hb2 : Blk (W2.setCell ⟨W.heap.size, 0, none⟩ (.int .i64 0)) W.heap.size 34 [.int .i64 0] := HB.out.setCell 0 _
  have hk2 : Kept2 W2 (W2.setCell ⟨W.heap.size, 0, none⟩ (.int .i64 0)) W.heap.size none := (Kept2.refl _ _ _).setCell 0 _
  refine (do1_idle W.heap.size _).mono ?_
  rintro e' u' W3 ⟨rfl, rfl, hb3⟩
  have c3 := (hb2.below hb3).cell 0 _ rfl
  have r3 : ∃ W2, R W2 ∧ Kept2 W2 W3 W.heap.size none := ⟨W2, HQ.out, hk2.below hb3⟩
  simp [Leaves, settle, results, Tryz.results29, go_sem, c3, r3]
end Go.Proofs.YtpfoohfgochaiaaGreatDoor
