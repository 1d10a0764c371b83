/- GuardDo: the walk of the law's body. -/
import Derived.Test.YtpfoohfgochaiaaGreatDoorGd
namespace Go.Proofs.YtpfoohfgochaiaaGreatDoor
open Go.RowKit
set_option maxHeartbeats 800000 in
theorem gd1_fault (w : World) (gh gc ga : Nat) (h e : Int) (hh : w.cell? ⟨gh, 0, none⟩ = some (.int .i64 h)) (hc : w.cell? ⟨gc, 0, none⟩ = some (.int .i64 e)) (ht : h.tmod 3 = 0 ∨ h.tmod 3 = 1) :
    Calls Tryz.prog 30 #[.pointer (some ⟨gh, 0, none⟩), .pointer (some ⟨gc, 0, none⟩), .pointer (some ⟨ga, 0, none⟩)] w fun e' w' => e' = faultOf e ∧ w' = w := by
  rcases ht with ht | ht
  · have hw : IntKind.i64.wrap (h.tmod 3) = 0 := by rw [ht]; rfl
    go_enter Tryz.func30, Tryz.ntmps30
    go_wp2_with (go_at_call 31; refine (must_false _ e).mono ?_; rintro e' w' ⟨rfl, rfl⟩)
    exact ⟨rfl, rfl, rfl⟩
  · have hw : IntKind.i64.wrap (h.tmod 3) = 1 := by rw [ht]; rfl
    go_enter Tryz.func30, Tryz.ntmps30
    go_wp2_with (first
      | (go_at_call 31; refine (must_true _ e).mono ?_; rintro e' w' ⟨rfl, hw'⟩; replace hw' := hw'.symm; subst hw')
      | (go_at_call 32; refine (fail_any _ e).mono ?_; rintro e' w' ⟨rfl, rfl⟩))
    exact ⟨rfl, rfl, rfl⟩
set_option maxHeartbeats 800000 in
theorem gd1_ok (w : World) (gh gc ga : Nat) (h e : Int) (b : Bool) (hh : w.cell? ⟨gh, 0, none⟩ = some (.int .i64 h)) (hc : w.cell? ⟨gc, 0, none⟩ = some (.int .i64 e)) (ha : Blk w ga 4 [.bool b]) (ht0 : h.tmod 3 ≠ 0) (ht1 : h.tmod 3 ≠ 1) :
    Calls Tryz.prog 30 #[.pointer (some ⟨gh, 0, none⟩), .pointer (some ⟨gc, 0, none⟩), .pointer (some ⟨ga, 0, none⟩)] w fun e' w' => e' = .returned (.tuple #[]) ∧ w' = w.setCell ⟨ga, 0, none⟩ (.bool true) := by
  have c0 := ha.cell 0 _ rfl
  have f0 := ha.frozen 0
  obtain ⟨t, ht⟩ : ∃ t, h.tmod 3 = t := ⟨_, rfl⟩
  rw [ht] at ht0 ht1
  have e0 : (t == 0) = false := by rw [beq_eq_false_iff_ne]; exact ht0
  have e1 : (t == 1) = false := by rw [beq_eq_false_iff_ne]; exact ht1
  have e2 : (t != 0) = true := by rw [bne, e0]; rfl
  clear ht0 ht1 ha
  go_enter Tryz.func30, Tryz.ntmps30
  go_wp2_with (first
    | (go_at_call 31; refine (must_true _ e).mono ?_; rintro e' w' ⟨rfl, hw'⟩; replace hw' := hw'.symm; subst hw'))
  first | go_end0 | refine bodyPost_ret (results_none rfl _ _ _) rfl ?_
  exact ⟨rfl, rfl⟩
/-- The Do that fails: its code. -/
theorem gdFault_any (w : World) (gh gc ga : Nat) (h e : Int) (b : Bool) (hh : Blk w gh 3 [.int .i64 h]) (hc : Blk w gc 34 [.int .i64 e]) (_ha : Blk w ga 4 [.bool b]) (ht : h.tmod 3 = 0 ∨ h.tmod 3 = 1) :
    Calls Tryz.prog 29 #[.func (.func 30) #[] #[.pointer (some ⟨gh, 0, none⟩), .pointer (some ⟨gc, 0, none⟩), .pointer (some ⟨ga, 0, none⟩)]] w fun e' w' => e' = .returned (.int .i64 e) ∧ Below w.heap.size w w' :=
  do_same w 30 _ e (fun w => by kernel_rfl) (fun w1 hb => gd1_fault w1 gh gc ga h e ((hh.below hb).cell 0 _ rfl) ((hc.below hb).cell 0 _ rfl) ht)
/-- The Do that does not: all is well, and it went to its end. -/
theorem gdOk_any (w : World) (gh gc ga : Nat) (h e : Int) (b : Bool) (hh : Blk w gh 3 [.int .i64 h]) (hc : Blk w gc 34 [.int .i64 e]) (ha : Blk w ga 4 [.bool b]) (ht0 : h.tmod 3 ≠ 0) (ht1 : h.tmod 3 ≠ 1) :
    Calls Tryz.prog 29 #[.func (.func 30) #[] #[.pointer (some ⟨gh, 0, none⟩), .pointer (some ⟨gc, 0, none⟩), .pointer (some ⟨ga, 0, none⟩)]] w fun e' w' => e' = .returned (.int .i64 0) ∧ Kept2 w w' ga none ∧ Blk w' ga 4 [.bool true] := by
  have c0 := gd1_ok (w.alloc (.cells #[.int .i64 0] 34)) gh gc ga h e b ((hh.alloc _).cell 0 _ rfl) ((hc.alloc _).cell 0 _ rfl) (ha.alloc _) ht0 ht1
  have hl := ha.lt
  refine (do_ok w 30 _ (fun W2 => W2 = (w.alloc (.cells #[.int .i64 0] 34)).setCell ⟨ga, 0, none⟩ (.bool true)) (fun w => by kernel_rfl) (c0.mono ?_)).mono ?_
  · rintro e' W2 ⟨rfl, rfl⟩
    exact ⟨rfl, (Blk.new w _ [.int .i64 0]).far (p := ⟨ga, 0, none⟩) (show w.heap.size ≠ ga by omega) _, rfl⟩
  · rintro e' W' ⟨rfl, W2, rfl, hk⟩
    have k0 : Kept2 w ((w.alloc (.cells #[.int .i64 0] 34)).setCell ⟨ga, 0, none⟩ (.bool true)) ga none := ((Kept2.refl w ga none).below ((Below.refl _ _).alloc (Nat.le_refl _) _)).setCell 0 _
    have b0 : Blk ((w.alloc (.cells #[.int .i64 0] 34)).setCell ⟨ga, 0, none⟩ (.bool true)) ga 4 [.bool true] := (ha.alloc _).setCell 0 _
    exact ⟨rfl, ⟨hk.os.trans k0.os, hk.tape.trans k0.tape, hk.output.trans k0.output, Nat.le_trans k0.size hk.size, fun k hk1 h1 h2 => (hk.block k (Nat.lt_of_lt_of_le hk1 k0.size) (by omega) h2).trans (k0.block k hk1 h1 h2)⟩, b0.kept hk (by omega)⟩
set_option maxRecDepth 20000 in
set_option maxHeartbeats 4000000 in
theorem guardDo_any (W : World) (e how value : Int) (hG : Gl W) : Calls Tryz.prog 5 #[.int .i64 e, .int .i64 how, .int .i64 value] W fun e W' => e = .returned (.bool true) ∧ Below W.heap.size W W' := by
  have hmf : ∀ (fn : Fn) (first cap : Array Value) (w : World), (Instr.makeFunc fn first cap).run Tryz.prog w = .ok (.func fn first cap) w := fun _ _ _ _ => rfl
  have h0 : Below W.heap.size W (W.alloc (.cells #[.int .i64 how] 3)) := (Below.refl _ _).alloc (Nat.le_refl _) _
  have hb := begun_any _ (hG.below h0)
  have b0 := Blk.new W 3 [.int .i64 how]
  have H0 := Lib.hid h0
  have B0 := Lib.hid b0
  have HB := Lib.hid hb
  clear hb hG h0 b0
  go_enter Tryz.func5, Tryz.ntmps5
  go_upto_region 6 with (first
    | (go_at_call 23; refine HB.out.mono ?_; rintro e w1 ⟨rfl, hb⟩; have L1 := Lib.hid hb; clear hb))
  generalize bits BinOp.and IntKind.i64 e 15 = x
  have bh := ((B0.out.below L1.out).alloc (.cells #[.int .i64 x] 34)).alloc (.cells #[.bool false] 4)
  have bc : Blk ((w1.alloc (.cells #[.int .i64 x] 34)).alloc (.cells #[.bool false] 4)) w1.heap.size 34 [.int .i64 x] := (Blk.new w1 _ [.int .i64 x]).alloc _
  have ba : Blk ((w1.alloc (.cells #[.int .i64 x] 34)).alloc (.cells #[.bool false] 4)) (w1.heap.size + 1) 4 [.bool false] := by
    have := Blk.new (w1.alloc (.cells #[.int .i64 x] 34)) 4 [.bool false]
    rwa [hsz] at this
  have lw : W.heap.size + 1 ≤ w1.heap.size := by have := L1.out.size; rw [hsz] at this; exact this
  have l1 : Below W.heap.size W w1 := H0.out.trans (L1.out.mono H0.out.size)
  have l3 : Below W.heap.size W ((w1.alloc (.cells #[.int .i64 x] 34)).alloc (.cells #[.bool false] 4)) := (l1.alloc (by omega) _).alloc (by rw [hsz]; omega) _
  generalize (w1.alloc (.cells #[.int .i64 x] 34)).alloc (.cells #[.bool false] 4) = w3 at bh bc ba l3 ⊢
  have L3 := Lib.hid l3
  have LW := Lib.hid lw
  generalize w1.heap.size = gc at bc ba LW lw ⊢
  clear l1 l3
  by_cases ht : how.tmod 3 = 0 ∨ how.tmod 3 = 1
  · have cD := gdFault_any w3 W.heap.size gc (gc + 1) how x false bh bc ba ht
    have CD := Lib.hid cD
    have BH := Lib.hid bh
    have BC := Lib.hid bc
    have BA := Lib.hid ba
    clear cD bh bc ba L1 lw
    obtain ⟨t, htt⟩ : ∃ t, how.tmod 3 = t := ⟨_, rfl⟩
    rw [htt] at ht
    have t1 : (t == 2) = false := by rw [beq_eq_false_iff_ne]; omega
    have t2 : (t == -2) = false := by rw [beq_eq_false_iff_ne]; omega
    have t3 : (t == -1) = false := by rw [beq_eq_false_iff_ne]; omega
    clear ht
    go_wp2_with (first
      | (go_at_call 29; refine CD.out.mono ?_; rintro e w4 ⟨rfl, hb⟩; have x1 := (BH.out.below hb).cell 0 _ rfl; have x2 := (BC.out.below hb).cell 0 _ rfl; have x3 := (BA.out.below hb).cell 0 _ rfl; have L4 := Lib.hid (L3.out.trans (hb.mono L3.out.size)); clear hb)
      | (go_at_call 33; refine (other_any _ value).mono ?_; rintro e w5 ⟨rfl, hb⟩; have L5 := Lib.hid (L4.out.trans (hb.mono L4.out.size)); clear hb))
    go_ret
    exact ⟨rfl, L5.out⟩
  · have ht0 : how.tmod 3 ≠ 0 := fun h => ht (.inl h)
    have ht1 : how.tmod 3 ≠ 1 := fun h => ht (.inr h)
    have cD := gdOk_any w3 W.heap.size gc (gc + 1) how x false bh bc ba ht0 ht1
    have CD := Lib.hid cD
    have BH := Lib.hid bh
    clear cD bh bc ba L1
    have hr : -3 < how.tmod 3 ∧ how.tmod 3 < 3 := by
      rcases Int.le_total 0 how with h | h
      · rw [Int.tmod_eq_emod_of_nonneg h]; omega
      · have e : how = -(-how) := by omega
        rw [e, Int.neg_tmod, Int.tmod_eq_emod_of_nonneg (by omega)]
        omega
    obtain ⟨t, htt⟩ : ∃ t, how.tmod 3 = t := ⟨_, rfl⟩
    rw [htt] at ht0 ht1 hr
    have hcs : t = 2 ∨ t = -2 ∨ t = -1 := by omega
    clear ht ht0 ht1 hr
    rcases hcs with rfl | rfl | rfl
    all_goals
      go_wp2_with (first
        | (go_at_call 29; refine CD.out.mono ?_; rintro e w4 ⟨rfl, hk, hb4⟩; have x1 := (BH.out.kept hk (by omega)).cell 0 _ rfl; have x3 := hb4.cell 0 _ rfl; have L4 : Hid (Below W.heap.size W w4) := Lib.hid ⟨hk.os.trans L3.out.os, hk.tape.trans L3.out.tape, hk.output.trans L3.out.output, Nat.le_trans L3.out.size hk.size, fun j hj => (hk.block j (Nat.lt_of_lt_of_le hj L3.out.size) (by omega) (fun e => by cases e)).trans (L3.out.block j hj)⟩; clear hk hb4)
        | (go_at_call 33; refine (other_any _ value).mono ?_; rintro e w5 ⟨rfl, hb⟩; have L5 := Lib.hid (L4.out.trans (hb.mono L4.out.size)); clear hb))
      go_ret
      exact ⟨rfl, L5.out⟩
end Go.Proofs.YtpfoohfgochaiaaGreatDoor
