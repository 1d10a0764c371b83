/- GuardDo: what panics otherwise goes on; the walk of the law's body. -/
import Derived.Test.YtpfoohfgochaiaaGreatDoorNw
namespace Go.Proofs.YtpfoohfgochaiaaGreatDoor
open Go.RowKit
/-- A panic that is no fault, as it goes on: raised anew, the old one recovered. -/
def intPanic (x : Int) : Ending := .panicked [{ v := .iface 3 (.int .i64 x), recovered := false }]
def intPanic2 (x : Int) : Ending := .panicked [{ v := .iface 3 (.int .i64 x), recovered := false }, { v := .iface 3 (.int .i64 x), recovered := true }]
set_option maxRecDepth 20000 in
set_option maxHeartbeats 800000 in
theorem do1_other (p : Nat) (x : Int) (older : List PanicEntry) (w : World) :
    CallsD Tryz.prog 92 #[.pointer (some ⟨p, 0, none⟩)] (.panicking ({ v := .iface 3 (.int .i64 x), recovered := false } :: older)) w fun e' u' w' =>
      e' = intPanic x ∧ u' = .panicking ({ v := .iface 3 (.int .i64 x), recovered := true } :: older) ∧ Below w.heap.size w w' := by
  refine callsD_of_wpS Tryz.func92 rfl fun c₀ cs hu => ?_
  apply wpS_seq
  apply wpS_region
  simp [wpOpsS, go_sem, recoverD, hu, Tryz.ntmps92, Exit.thenS]
  refine wpS_of_wp ?_
  generalize hA : ({ tmps := _, defers := [] } : Act) = a0
  have hA2 : a0 = { tmps := #[.pointer (some ⟨p, 0, none⟩), .iface 3 (.int .i64 x), undef, undef, .iface 3 (.int .i64 x), undef, undef, undef, undef, undef, undef, undef, undef, undef, undef, undef], defers := [] } := by rw [← hA]; rfl
  subst hA2
  have hta : ∀ w, (Instr.typeAssert (.iface 3 (.int .i64 x)) 20 103 true).run Tryz.prog w = .ok (.tuple #[.agg #[.int .i64 0], .bool false]) w := fun _ => rfl
  clear hA
  go_wp2
  have q2 : Below w.heap.size w (w.alloc (.cells #[.int .i64 0] 103)) := (Below.refl _ _).alloc (Nat.le_refl _) _
  simp [bodyPostS, q2, intPanic]
set_option maxRecDepth 20000 in
set_option maxHeartbeats 800000 in
/-- What is called panics with what is no fault: it goes on. -/
theorem do_other (W : World) (k : Nat) (cap : Array Value) (x : Int) (R : World → Prop)
    (hc : ∀ w, (callFunc k cap).run Tryz.prog w = .ok (.enter k cap) w) (hk : Calls Tryz.prog k cap (W.alloc (.cells #[.int .i64 0] 34)) fun e' W2 => e' = intPanic x ∧ R W2) :
    Calls Tryz.prog 29 #[.func (.func k) #[] cap] W fun e' W' => e' = intPanic2 x ∧ ∃ W2, R W2 ∧ Below W2.heap.size W2 W' := by
  have hmf : ∀ (fn : Fn) (first cap : Array Value) (w : World), (Instr.makeFunc fn first cap).run Tryz.prog w = .ok (.func fn first cap) w := fun _ _ _ _ => rfl
  go_enter_defers Tryz.func29, Tryz.ntmps29
  go_wp2_with (refine hk.mono ?_; rintro e' W2 ⟨he, hq⟩; unfold intPanic at he; subst he; have HQ := Lib.hid hq; clear hq)
  refine leaves_cons (f := 92) (args := #[.pointer (some ⟨W.heap.size, 0, none⟩)]) (by simp) (by simp [go_sem]) ?_
  refine (do1_other W.heap.size x [] W2).mono ?_
  rintro e' u' W3 ⟨rfl, rfl, hb3⟩
  have r3 : ∃ W2, R W2 ∧ Below W2.heap.size W2 W3 := ⟨W2, HQ.out, hb3⟩
  simp [Leaves, raised, intPanic, intPanic2, r3]
set_option maxRecDepth 20000 in
set_option maxHeartbeats 800000 in
/-- other's own recover: the value is told. -/
theorem other1_any (p : Nat) (x z : Int) (older : List PanicEntry) (w : World) (hb : Blk w p 3 [.int .i64 z]) :
    CallsD Tryz.prog 93 #[.pointer (some ⟨p, 0, none⟩)] (.panicking ({ v := .iface 3 (.int .i64 x), recovered := false } :: older)) w fun e' u' w' =>
      e' = .returned (.tuple #[]) ∧ u' = .panicking ({ v := .iface 3 (.int .i64 x), recovered := true } :: older) ∧ Blk w' p 3 [.int .i64 x] ∧ Kept2 w w' p none := by
  refine callsD_of_wpS Tryz.func93 rfl fun c₀ cs hu => ?_
  apply wpS_seq
  apply wpS_region
  have d0 := hb.cell 0 _ rfl
  have f0 := hb.frozen 0
  have hta : ∀ w, (Instr.typeAssert (.iface 3 (.int .i64 x)) 20 3 true).run Tryz.prog w = .ok (.tuple #[.int .i64 x, .bool true]) w := fun _ => rfl
  simp [wpOpsS, go_sem, recoverD, hu, Tryz.ntmps93, Exit.thenS, hta]
  have hlt := hb.lt
  have HB := Lib.hid hb
  clear hb
  refine wpS_of_wp ?_
  generalize hA : ({ tmps := _, defers := [] } : Act) = a0
  have hA2 : a0 = { tmps := #[.pointer (some ⟨p, 0, none⟩), .int .i64 x, .bool true, .tuple #[.int .i64 x, .bool true], .iface 3 (.int .i64 x), .tuple #[.int .i64 x, .bool true], .int .i64 x, .bool true, undef, undef], defers := [] } := by rw [← hA]; kernel_rfl
  subst hA2
  clear hA
  go_wp2
  have q1 : Blk (w.setCell ⟨p, 0, none⟩ (.int .i64 x)) p 3 [.int .i64 x] := HB.out.setCell 0 _
  have q2 : Kept2 w (w.setCell ⟨p, 0, none⟩ (.int .i64 x)) p none := (Kept2.refl w p none).setCell 0 _
  generalize w.setCell ⟨p, 0, none⟩ (.int .i64 x) = w9 at q1 q2 ⊢
  simp [bodyPostS, results, Tryz.results93, q1, q2]
/-- other$2: the panic. -/
theorem other2_any (w : World) (g : Nat) (x : Int) (h : w.cell? ⟨g, 0, none⟩ = some (.int .i64 x)) : Calls Tryz.prog 94 #[.pointer (some ⟨g, 0, none⟩)] w fun e' w' => e' = intPanic x ∧ w' = w := by
  go_enter Tryz.func94, Tryz.ntmps94
  go_wp2
  exact ⟨rfl, rfl, rfl⟩
/-- Do hands another panic on. -/
theorem doOther_any (W : World) (g : Nat) (x : Int) (hb : Blk W g 3 [.int .i64 x]) :
    Calls Tryz.prog 29 #[.func (.func 94) #[] #[.pointer (some ⟨g, 0, none⟩)]] W fun e' W' => e' = intPanic2 x ∧ Below W.heap.size W W' := by
  have h0 : Below W.heap.size W (W.alloc (.cells #[.int .i64 0] 34)) := (Below.refl _ _).alloc (Nat.le_refl _) _
  refine (do_other W 94 _ x (fun W2 => W2 = W.alloc (.cells #[.int .i64 0] 34)) (fun w => by kernel_rfl) ((other2_any _ g x ((hb.alloc _).cell 0 _ rfl)).mono ?_)).mono ?_
  · rintro e' W2 ⟨rfl, rfl⟩
    exact ⟨rfl, rfl⟩
  · rintro e' W' ⟨rfl, W2, rfl, hb2⟩
    exact ⟨rfl, h0.trans (hb2.mono h0.size)⟩
set_option maxRecDepth 20000 in
set_option maxHeartbeats 800000 in
theorem other_any (W : World) (x : Int) : Calls Tryz.prog 33 #[.int .i64 x] W fun e W' => e = .returned (.int .i64 x) ∧ Below W.heap.size W W' := by
  have hmf : ∀ (fn : Fn) (first cap : Array Value) (w : World), (Instr.makeFunc fn first cap).run Tryz.prog w = .ok (.func fn first cap) w := fun _ _ _ _ => rfl
  have b1 : Blk ((W.alloc (.cells #[.int .i64 x] 3)).alloc (.cells #[.int .i64 0] 3)) W.heap.size 3 [.int .i64 x] := (Blk.new W _ [.int .i64 x]).alloc _
  have b2 : Blk ((W.alloc (.cells #[.int .i64 x] 3)).alloc (.cells #[.int .i64 0] 3)) (W.heap.size + 1) 3 [.int .i64 0] := by
    have := Blk.new (W.alloc (.cells #[.int .i64 x] 3)) 3 [.int .i64 0]
    rwa [hsz] at this
  have l2 : Below W.heap.size W ((W.alloc (.cells #[.int .i64 x] 3)).alloc (.cells #[.int .i64 0] 3)) := ((Below.refl _ _).alloc (Nat.le_refl _) _).alloc (by rw [hsz]; omega) _
  have cD := doOther_any _ _ x b1
  have CD := Lib.hid cD
  have B2 := Lib.hid b2
  have L2 := Lib.hid l2
  clear cD b1 b2 l2
  go_enter_defers Tryz.func33, Tryz.ntmps33
  go_wp2_with (go_at_call 29; refine CD.out.mono ?_; rintro e' W3 ⟨he, hb3⟩; unfold intPanic2 at he; subst he; have B3 := Lib.hid (B2.out.below hb3); have L3 := Lib.hid (L2.out.trans (hb3.mono L2.out.size)); clear hb3)
  refine leaves_cons (f := 93) (args := #[.pointer (some ⟨W.heap.size + 1, 0, none⟩)]) (by simp) (by simp [go_sem]) ?_
  refine (other1_any (W.heap.size + 1) x 0 _ W3 B3.out).mono ?_
  rintro e' u' W4 ⟨rfl, rfl, hb4, hk4⟩
  have c4 := hb4.cell 0 _ rfl
  have r4 : Below W.heap.size W W4 := ⟨hk4.os.trans L3.out.os, hk4.tape.trans L3.out.tape, hk4.output.trans L3.out.output, Nat.le_trans L3.out.size hk4.size, fun j hj => (hk4.block j (Nat.lt_of_lt_of_le hj L3.out.size) (by omega) (fun e => by cases e)).trans (L3.out.block j hj)⟩
  simp [Leaves, settle, results, Tryz.results33, go_sem, c4, r4]
end Go.Proofs.YtpfoohfgochaiaaGreatDoor
