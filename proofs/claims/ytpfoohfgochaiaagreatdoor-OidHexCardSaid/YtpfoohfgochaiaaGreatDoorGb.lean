/- guard: the other answers of Bytes; Byte. -/
import Derived.Test.YtpfoohfgochaiaaGreatDoorG
namespace Go.Proofs.YtpfoohfgochaiaaGreatDoor
open Go.RowKit
def faultOf (e : Int) : Ending := .panicked [{ v := .iface 103 (.agg #[.int .i64 e]), recovered := false }]
theorem must_any (W : World) (b : Bool) (e : Int) : Calls Tryz.prog 31 #[.bool b, .int .i64 e] W fun e' W' => e' = (bif b then .returned (.tuple #[]) else faultOf e) ∧ W' = W := by
  cases b
  · exact must_false W e
  · exact must_true W e
set_option maxHeartbeats 400000 in
theorem bytes_neg (W : World) (g : Nat) (n : Int) (hn : n < 0) : Calls Tryz.prog 38 #[.pointer (some ⟨g, 0, none⟩), .int .i64 n] W fun e W' => e = faultOf 1 ∧ W' = W := by
  have q1 : ¬ (0 : Int) ≤ n := by omega
  go_enter Tryz.func38, Tryz.ntmps38
  go_wp2_with (go_at_call 31; refine (must_any _ _ _).mono ?_; rintro e w' ⟨he, rfl⟩; (try simp only [qd] at he); simp only [cond_false, faultOf] at he; subst he)
  exact ⟨rfl, rfl, rfl⟩
set_option maxHeartbeats 400000 in
theorem bytes_more (W : World) (g : Nat) (A : Option Addr) (m c : Nat) (n : Int) (h : W.cell? ⟨g, 0, none⟩ = some (.slice A m c)) (hm : m ≤ 140737488355328) (hn : (m : Int) < n) : Calls Tryz.prog 38 #[.pointer (some ⟨g, 0, none⟩), .int .i64 n] W fun e W' => e = faultOf 2 ∧ W' = W := by
  have q1 : (0 : Int) ≤ n := by omega
  have q2 : ¬ n ≤ (m : Int) := by omega
  have qd : decide (n ≤ (m : Int)) = false := by simp; omega
  go_enter Tryz.func38, Tryz.ntmps38
  go_wp2_with (first
    | (go_at_call 39; refine (left_any _ g A m c h hm).mono ?_; rintro e w' ⟨rfl, rfl⟩)
    | (go_at_call 31; refine (must_any _ _ _).mono ?_; rintro e w' ⟨he, rfl⟩; (try simp only [qd] at he); simp only [cond_true, cond_false, faultOf] at he; subst he))
  exact ⟨rfl, rfl, rfl⟩
set_option maxHeartbeats 400000 in
theorem bytes_none (W : World) (g : Nat) (A : Option Addr) (m c : Nat) (h : W.cell? ⟨g, 0, none⟩ = some (.slice A m c)) (hm : m ≤ 140737488355328) : Calls Tryz.prog 38 #[.pointer (some ⟨g, 0, none⟩), .int .i64 0] W fun e W' => e = .returned (.slice none 0 0) ∧ W' = W := by
  have q1 : (0 : Int) ≤ (m : Int) := by omega
  go_enter Tryz.func38, Tryz.ntmps38
  go_wp2_with (first
    | (go_at_call 39; refine (left_any _ g A m c h hm).mono ?_; rintro e w' ⟨rfl, rfl⟩)
    | (go_at_call 31; refine (must_any _ _ _).mono ?_; rintro e w' ⟨he, rfl⟩; (try simp only [qd] at he); simp only [cond_true, faultOf] at he; subst he))
  go_ret
  exact ⟨rfl, rfl⟩
set_option maxHeartbeats 400000 in
theorem byte_none (W : World) (g : Nat) (A : Option Addr) (c : Nat) (h : W.cell? ⟨g, 0, none⟩ = some (.slice A 0 c)) : Calls Tryz.prog 36 #[.pointer (some ⟨g, 0, none⟩)] W fun e W' => e = faultOf 2 ∧ W' = W := by
  go_enter Tryz.func36, Tryz.ntmps36
  go_wp2_with (go_at_call 38; refine (bytes_more _ g A 0 c 1 h (by omega) (by omega)).mono ?_; rintro e w' ⟨he, rfl⟩; unfold faultOf at he; subst he)
  exact ⟨rfl, rfl, rfl⟩
/-- The first byte of a row. -/
theorem RowQ.first {w : World} {B : Nat} {v : Value} {b : UInt8} (h : RowQ w B 5 1 v 1 (Bs [b])) : ∃ g o c, v = .slice (some ⟨g, o, none⟩) 1 c ∧ w.cell? ⟨g, o, none⟩ = some (.int .u8 (ub b)) := by
  obtain ⟨A, c, rfl, _, _⟩ := h.shape
  have hs := h.src (Bs_one _)
  rcases h.2 with ⟨_, h0⟩ | ⟨g, o, cap, cur, hv, _⟩
  · omega
  · injection hv with e1 _ _
    subst e1
    obtain ⟨ad, e, hc⟩ := hs.2.1 (by omega)
    injection e with e
    subst e
    exact ⟨g, o, c, rfl, by simpa [Addr.add] using hc 0 _ rfl⟩
set_option maxHeartbeats 400000 in
theorem byte_some (W : World) (B g : Nat) (A : Option Addr) (c : Nat) (b : UInt8) (bs : List UInt8) (h : RdAt W B g (.slice A (b :: bs).length c) (b :: bs)) (hl : (b :: bs).length ≤ 140737488355328) :
    Calls Tryz.prog 36 #[.pointer (some ⟨g, 0, none⟩)] W fun e W' => e = .returned (.int .u8 (ub b)) ∧ ∃ v2, RdAt W' B g v2 bs ∧ Kept2 W W' g none ∧ v2.ownBlock = (Value.slice A (b :: bs).length c).ownBlock := by
  have H := Lib.hid h
  clear h
  go_enter Tryz.func36, Tryz.ntmps36
  go_wp2_with (go_at_call 38; refine (bytes_some W B g A c 1 (b :: bs) H.out (by omega) (by simp) hl).mono ?_; rintro e w1 ⟨v1, v2, rfl, hr1, P⟩; obtain ⟨g1, o1, c1, rfl, hc1⟩ := RowQ.first hr1; have P1 := Lib.hid P; clear hr1 P)
  go_ret
  exact ⟨rfl, v2, P1.out.1, P1.out.2.1, P1.out.2.2⟩
end Go.Proofs.YtpfoohfgochaiaaGreatDoor
