/- line.Get. -/
import Derived.Test.YtpfoohfgochaiaaGreatDoorLc
import Derived.Deep.QuietTactic
import Derived.BigQuiet
namespace Go.Proofs.YtpfoohfgochaiaaGreatDoor
open Go.RowKit
theorem results_tmp4 {P : Program} {fn : Func} {r s t u : Tmp} (h : fn.results = #[.tmp r, .tmp s, .tmp t, .tmp u]) (tmps : Array Value) (w : World) :
    (results fn tmps).run P w = .ok (.tuple #[tmps.getD r undef, tmps.getD s undef, tmps.getD t undef, tmps.getD u undef]) w := by
  simp [results, h]
/-- Get's answer: kind, text, length, error. -/
def getR (l : List UInt8) : Nat × List UInt8 × Nat × Nat :=
  if (numR l).2 ≠ 0 then (0, [], 0, (numR l).2) else if (numR l).1 = 0 then (2, [], 4, 0) else if (numR l).1 = 1 then (3, [], 4, 0)
  else if l.length < (numR l).1 then (0, [], 0, 2) else (1, (l.take (numR l).1).drop 4, (numR l).1, 0)
def getV (r : Nat × List UInt8 × Nat × Nat) : Value := .tuple #[.int .i64 r.1, .string ⟨r.2.1.toArray⟩, .int .i64 r.2.2.1, .int .i64 r.2.2.2]
theorem numR_ok {l : List UInt8} (h : (numR l).2 = 0) : 4 ≤ l.length ∧ lmay (numR l).1 = true ∧ hnum (l.take 4) = some (numR l).1 := by
  unfold numR at h ⊢
  cases hn : hnum (l.take 4) with
  | none => rw [hn] at h; cases h
  | some n =>
    rw [hn] at h
    simp only at h ⊢
    by_cases h1 : (decide (4 ≤ l.length) && lmay n) = true
    · rw [if_pos h1]
      simp at h1
      exact ⟨h1.1, h1.2, rfl⟩
    · rw [if_neg h1] at h
      split at h <;> cases h
theorem lmay_le {n : Nat} (h : lmay n = true) : n = 0 ∨ n = 1 ∨ (4 < n ∧ n ≤ 1004) := by
  simp [lmay] at h
  omega
theorem numR_err (l : List UInt8) : (numR l).2 ≤ 2 := by
  unfold numR
  split
  · simp
  · split
    · simp
    · split <;> simp
set_option maxRecDepth 100000 in
set_option maxHeartbeats 800000 in
theorem get_any (W : World) (s : ByteArray) (hs : s.size ≤ 140737488355328) (hT : Deb W) : Calls Tryz.prog 55 #[.string s] W fun e W' => e = .returned (getV (getR s.data.toList)) ∧ Below W.heap.size W W' := by
  obtain ⟨b, hb⟩ : ∃ b, b = getV (getR s.data.toList) := ⟨_, rfl⟩
  rw [← hb]
  have hz := ba_size s
  have hok := @numR_ok s.data.toList
  have herr := numR_err s.data.toList
  have hc := number_any W s hs hT
  unfold getR at hb
  obtain ⟨n, hn⟩ : ∃ n, n = (numR s.data.toList).1 := ⟨_, rfl⟩
  obtain ⟨x, hx⟩ : ∃ x, x = (numR s.data.toList).2 := ⟨_, rfl⟩
  rw [← hn, ← hx] at hc hb hok
  rw [← hx] at herr
  rw [← hz] at hok hb
  have HC := Lib.hid hc
  by_cases h0 : x = 0
  · subst h0
    obtain ⟨k4, hm, _⟩ := hok rfl
    rw [if_neg (by simp)] at hb
    have hle := lmay_le hm
    have k4' : (4 : Int) ≤ (s.size : Int) := by omega
    clear hn hx hok herr hc hm hT hs hz
    rcases hle with rfl | rfl | ⟨g1, g2⟩
    · rw [if_pos rfl] at hb
      have HB := Lib.hid hb
      clear hb
      go_enter Tryz.func55, Tryz.ntmps55
      go_wp2_with (go_at_call 104; refine HC.out.mono ?_; rintro e w' ⟨rfl, hb⟩; have B := Lib.hid hb; clear hb)
      refine bodyPost_ret (results_tmp4 rfl _ _) rfl ?_
      exact ⟨by rw [HB.out]; rfl, B.out⟩
    · rw [if_neg (by omega), if_pos rfl] at hb
      have HB := Lib.hid hb
      clear hb
      go_enter Tryz.func55, Tryz.ntmps55
      go_wp2_with (go_at_call 104; refine HC.out.mono ?_; rintro e w' ⟨rfl, hb⟩; have B := Lib.hid hb; clear hb)
      refine bodyPost_ret (results_tmp4 rfl _ _) rfl ?_
      exact ⟨by rw [HB.out]; rfl, B.out⟩
    · rw [if_neg (by omega), if_neg (by omega)] at hb
      have e0 : ((n : Int) == 0) = false := by simp; omega
      have e1 : ((n : Int) == 1) = false := by simp; omega
      have e4 : (4 : Int) ≤ (n : Int) := by omega
      have e5 : (n : Int) ≤ 1004 := by omega
      by_cases hl : s.size < n
      · rw [if_pos hl] at hb
        have HB := Lib.hid hb
        have hl2 : (s.size : Int) < (n : Int) := by omega
        clear hb g1 g2
        go_enter Tryz.func55, Tryz.ntmps55
        go_wp2_with (go_at_call 104; refine HC.out.mono ?_; rintro e w' ⟨rfl, hb⟩; have B := Lib.hid hb; clear hb)
        refine bodyPost_ret (results_tmp4 rfl _ _) rfl ?_
        exact ⟨by rw [HB.out]; rfl, B.out⟩
      · rw [if_neg hl] at hb
        have HB := Lib.hid hb
        have hl2 : (n : Int) ≤ (s.size : Int) := by omega
        have hl3 : n ≤ s.size := by omega
        have hl4 : 4 ≤ n := by omega
        clear hb g1 g2
        go_enter Tryz.func55, Tryz.ntmps55
        go_wp2_with (go_at_call 104; refine HC.out.mono ?_; rintro e w' ⟨rfl, hb⟩; have B := Lib.hid hb; clear hb)
        go_quiet (fail)
        go_wp2
        refine bodyPost_ret (results_tmp4 rfl _ _) rfl ?_
        refine ⟨?_, below_drewN' B.out _⟩
        have e : (⟨(List.drop 4 (List.take n s.data.toList)).toArray⟩ : ByteArray) = s.extract 4 n := ba_ext (by rw [ba_extract])
        rw [HB.out]
        unfold getV
        simp only [e]
        rfl
  · have e0 : ((x : Int) == 0) = false := by simp; omega
    have e1 : ((x : Int) != 0) = true := by simp; omega
    rw [if_pos h0] at hb
    have HB := Lib.hid hb
    clear hn hx hok herr hc hT hs hz h0 hb
    go_enter Tryz.func55, Tryz.ntmps55
    go_wp2_with (go_at_call 104; refine HC.out.mono ?_; rintro e w' ⟨rfl, hb⟩; have B := Lib.hid hb; clear hb)
    refine bodyPost_ret (results_tmp4 rfl _ _) rfl ?_
    exact ⟨by rw [HB.out]; rfl, B.out⟩
end Go.Proofs.YtpfoohfgochaiaaGreatDoor
