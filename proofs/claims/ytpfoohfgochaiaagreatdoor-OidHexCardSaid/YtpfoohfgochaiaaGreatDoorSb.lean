/- sha.schedule: the sixty-four words of a block. -/
import Derived.Test.YtpfoohfgochaiaaGreatDoorSa
import Derived.Test.YtpfoohfgochaiaaGreatDoorM
import Derived.BigRegion
namespace Go.Proofs.YtpfoohfgochaiaaGreatDoor
open Go.RowKit
attribute [local go_sem] un_add un_shl8 un_of_byte un_addm un_and un_or un_xor un_not un_shl8m un_shr3 un_shr10 ub_mod un_mod
/-- The two arrays of a schedule: the one that is handed back, the one that is filled. -/
def SchedAt (w wr : World) (l : List (BitVec 32)) : Prop := Below w.heap.size w wr ∧ Blk wr w.heap.size 130 (Us (List.replicate 64 0)) ∧ Blk wr (w.heap.size + 1) 130 (Us l)
set_option maxRecDepth 100000 in
theorem sched_new (w : World) : SchedAt w ((w.alloc (.cells (Us (List.replicate 64 0)).toArray 130)).alloc (.cells (Us (List.replicate 64 0)).toArray 130)) (List.replicate 64 0) := by
  refine ⟨((Below.refl _ _).alloc (Nat.le_refl _) _).alloc (by simp) _, (Blk.new w _ _).alloc _, ?_⟩
  have := Blk.new (w.alloc (.cells (Us (List.replicate 64 0)).toArray 130)) 130 (Us (List.replicate 64 0))
  simpa using this
theorem SchedAt.put {w wr : World} {l : List (BitVec 32)} (h : SchedAt w wr l) (j : Nat) (x : BitVec 32) : SchedAt w (wr.setCell ⟨w.heap.size + 1, j, none⟩ (.int .u32 (un x))) (l.set j x) :=
  ⟨h.1.setCell (by simp) _, h.2.1.far (by simp) _, by rw [← Us_set]; exact h.2.2.setCell j (.int .u32 (un x))⟩
theorem next_val (bs : List UInt8) (l : List (BitVec 32)) (k : Nat) (h : 16 ≤ k) : next bs l k =
    (rotr (gw l (k - 2)) 17 ^^^ rotr (gw l (k - 2)) 19 ^^^ gw l (k - 2) >>> 10) + gw l (k - 7) + (rotr (gw l (k - 15)) 7 ^^^ rotr (gw l (k - 15)) 18 ^^^ gw l (k - 15) >>> 3) + gw l (k - 16) := by
  rw [next, if_neg (by omega)]
  rfl
theorem SchedAt.drewN {w wr : World} {l : List (BitVec 32)} (h : SchedAt w wr l) (n : Nat) : SchedAt w (wr.drewN n) l := ⟨below_drewN h.1 n, h.2.1, h.2.2⟩
set_option maxRecDepth 100000 in
set_option maxHeartbeats 400000 in
theorem schedule_any (g o c : Nat) (bs : List UInt8) (w : World) (hc : 64 ≤ c) (hm : c ≤ 9223372036854775807) (hg : g < w.heap.size) (hb : BytesAt w g o 64 bs) :
    Calls Tryz.prog 120 #[.slice (some ⟨g, o, none⟩) 64 c] w fun e w' => e = .returned (.agg (Us (wl bs 64)).toArray) ∧ Below w.heap.size w w' := by
  go_enter Tryz.func120, Tryz.ntmps120
  go_wp2
  have HB := Lib.hid hb
  clear hb
  go_loopw [12] (fun i wr => ∃ k : Nat, k ≤ 16 ∧ i = .int .i64 k ∧ SchedAt w wr (wfill bs k)) (fun i _ => 16 - (intOf i).toNat)
  case atStart => exact ⟨0, by omega, rfl, by rw [wfill_zero]; exact sched_new w⟩
  case round =>
    obtain ⟨k, hk, rfl, hS⟩ := hrel
    have HS := Lib.hid hS
    clear hS
    by_cases hlt : k < 16
    · have l1 : (k : Int) < 16 := by omega
      go_wp2
      go_loopw [23] (fun i wr => ∃ j : Nat, j ≤ 4 ∧ i = .int .i64 j ∧ SchedAt w wr ((wfill bs k).set k (part bs k j))) (fun i _ => 4 - (intOf i).toNat)
      case atStart => exact ⟨0, by omega, rfl, by rw [part, wfill_set0 bs k (by omega)]; exact HS.out⟩
      case round =>
        obtain ⟨j, hj, rfl, hT⟩ := hrel
        by_cases hlt2 : j < 4
        · have l2 : (j : Int) < 4 := by omega
          have c1 : wr.cell? ⟨g, o + 4 * k + j, none⟩ = some (.int .u8 (ub (gb bs (4 * k + j)))) := by
            have := HB.out.2 (4 * k + j) (by omega)
            rw [← Nat.add_assoc] at this
            rw [hT.1.cell (p := ⟨g, o + 4 * k + j, none⟩) hg]
            exact this
          have c2 : wr.cell? ⟨w.heap.size + 1, k, none⟩ = some (.int .u32 (un (part bs k j))) := by
            refine hT.2.2.cell k _ ?_
            rw [Us_at _ _ (by rw [List.length_set, wfill_length bs k (by omega)]; omega), wfill_part bs k j _ (by omega)]
          have c3 : wr.frozen? ⟨w.heap.size + 1, k, none⟩ = false := hT.2.2.frozen k
          have HT := Lib.hid hT
          clear hT
          go_wp2
          go_roundw
          case rel => exact ⟨j + 1, by omega, by go_num, by have := HT.out.put k (part bs k (j + 1)); rw [List.set_set] at this; exact this⟩
          case measure => simp [intOf]; omega
        · have e : j = 4 := by omega
          subst e
          have HT := Lib.hid hT
          clear hT HS
          go_wp2
          go_roundw
          case rel => exact ⟨k + 1, by omega, by go_num, by rw [← wfill_set16 bs k hlt]; exact HT.out⟩
          case measure => simp [intOf]; omega
    · have e : k = 16 := by omega
      subst e
      go_wp2
      go_loopw [7] (fun i wr => ∃ k : Nat, 16 ≤ k ∧ k ≤ 64 ∧ i = .int .i64 k ∧ SchedAt w wr (wfill bs k)) (fun i _ => 64 - (intOf i).toNat)
      case atStart => exact ⟨16, by omega, by omega, rfl, HS.out⟩
      case round =>
        obtain ⟨k, hk1, hk2, rfl, hT⟩ := hrel
        by_cases hlt2 : k < 64
        · have l2 : (k : Int) < 64 := by omega
          have l3 : 16 ≤ (k : Int) := by omega
          have cell : ∀ i, i < k → wr.cell? ⟨w.heap.size + 1, i, none⟩ = some (.int .u32 (un (gw (wl bs k) i))) := fun i hi => by
            rw [← wfill_old bs k i hi]
            exact hT.2.2.cell i _ (Us_at _ _ (by rw [wfill_length bs k (by omega)]; omega))
          have c15 := cell (k - 15) (by omega)
          have c2 := cell (k - 2) (by omega)
          have c7 := cell (k - 7) (by omega)
          have c16 := cell (k - 16) (by omega)
          clear cell
          have ck : wr.cell? ⟨w.heap.size + 1, k, none⟩ = some (.int .u32 (un 0)) := by
            rw [← wfill_new bs k hlt2]
            exact hT.2.2.cell k _ (Us_at _ _ (by rw [wfill_length bs k (by omega)]; omega))
          have cf : wr.frozen? ⟨w.heap.size + 1, k, none⟩ = false := hT.2.2.frozen k
          have HT := Lib.hid hT
          clear hT
          go_wp2
          go_quiet (fail)
          go_wp2_with (go_at_call 122; refine (right_any _ _ (by omega) (by omega) _).mono ?_; rintro e w' ⟨rfl, rfl⟩)
          go_region
          go_wp2
          go_roundw
          case rel => ((repeat apply Exists.intro); exact ⟨⟨k + 1, by omega, by omega, by go_num, by rw [← wfill_set bs k hlt2, next_val bs _ k hk1]; exact (HT.out.drewN _).put k _⟩, rfl⟩)
          case measure => simp [intOf]; omega
        · have e : k = 64 := by omega
          subst e
          rw [wfill_all] at hT
          have HT := Lib.hid hT
          clear hT HS
          go_wp2_with (first | (refine wpl_load rfl 130 _ rfl (w.heap.size + 1) rfl 130 _ HT.out.2.2 64 93 Tryz.underlying130 (by rw [Tryz.size64]; simp) ?_) | (refine wpl_store rfl 130 _ _ rfl w.heap.size (Us (wl bs 64)) rfl rfl 130 _ HT.out.2.1 (by rw [Tryz.size64]; simp) (by simp) (Us_one _) ?_))
          refine bodyPost_ret (v := .agg (Us (wl bs 64)).toArray) (res_row rfl _ _ w.heap.size 130 _ 64 93 rfl (HT.out.2.1.row _) Tryz.underlying130 (by rw [Tryz.size64]; simp)) rfl ⟨rfl, below_setRow' HT.out.1 (Nat.le_refl _) _⟩
end Go.Proofs.YtpfoohfgochaiaaGreatDoor
