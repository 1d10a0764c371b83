/- ShaOwn: the walk of the law's body. -/
import Derived.Test.YtpfoohfgochaiaaGreatDoorBe
import Derived.Test.YtpfoohfgochaiaaGreatDoorCm
namespace Go.Proofs.YtpfoohfgochaiaaGreatDoor
open Go.RowKit
set_option maxRecDepth 20000 in
set_option maxHeartbeats 1600000 in
theorem shaOwn_any (W : World) (A : Option Addr) (n c : Nat) (bs : List UInt8) (hs : Src W 1 A n (Bs bs)) (hc : n ≤ c) (hm : c ≤ maxLen) (hG : Gl W) :
    Calls Tryz.prog 9 #[.slice A n c] W fun e W' => e = .returned (.bool true) ∧ Below W.heap.size W W' := by
  have hbe := begun_any W hG
  have HB := Lib.hid hbe
  obtain ⟨q, hq⟩ : ∃ q : Nat, q = min n 150 := ⟨_, rfl⟩
  have hmin : min (n : Int) 150 = (q : Int) := by omega
  have hqc : (q : Int) ≤ (c : Int) := by omega
  have SQ := Lib.hid (hs.take q (by omega))
  have HC := Lib.hid hc
  have HM := Lib.hid hm
  have HQ := Lib.hid hq
  obtain ⟨l, hl⟩ : ∃ l, l = bs.take q := ⟨_, rfl⟩
  have hbt : (Bs bs).take q = Bs l := by rw [hl]; simp [Bs]
  have z32 := z32_eq
  clear hbe hG hs hc hm hq hl
  go_enter Tryz.func9, Tryz.ntmps9
  go_upto_region 4 with (first
      | (go_at_call 23; refine HB.out.mono ?_; rintro e w1 ⟨rfl, hb⟩; have L1 := Lib.hid hb; clear hb))
  go_upto_region 6 with (first
    | (at_builtin; refine wpl_append rfl (.const (.slice none 0 0)) (.tmp 14) 22 rfl w1.heap.size 5 (.int .u8 0) 1 1 Tryz.underlying22 Tryz.info5 rfl (by decide) (.slice none 0 0) 0 [] rfl (RowQ.nil _ _ _ _) A q c ((Bs bs).take q) rfl (src_below SQ.out L1.out) (by have := HQ.out; omega) (by have := HQ.out; omega) (Nat.le_refl _) ?_; intro v1 w2 hr1 hg1 _; rw [Nat.zero_add, List.nil_append, hbt] at hr1; obtain ⟨A1, c1, rfl, _, _⟩ := hr1.shape; have R1 := Lib.hid hr1; have L2 : Hid (Below W.heap.size W w2) := L1.out.grown hg1 L1.out.size (by intro k hk; simp [Value.ownBlock] at hk); clear hr1 hg1)
    | (go_at_call 28; refine (shaSum_any w2 A1 q c1 l (R1.out.src (Bs_one _)) (fun ad e => (R1.out.ad ad e).2) (by have := HQ.out; omega)).mono ?_; rintro e w3 ⟨rfl, hb⟩; have B3 := Lib.hid hb; clear hb)
    | (refine wpl_store rfl 28 (.tmp 4) _ rfl w3.heap.size (Bs (sha256 l)) rfl rfl 28 zero32 (Blk.new w3 _ _) (by rw [Tryz.size32]; simp) (by simp [zero32]) (Bs_one _) ?_))
  have hlen : l.length = q := by have := R1.out.1; simpa using this
  have hq150 : q ≤ 150 := by have := HQ.out; omega
  have s3 : w2.heap.size ≤ w3.heap.size := B3.out.size
  have s1 : W.heap.size ≤ w1.heap.size := L1.out.size
  have s2 : W.heap.size ≤ w2.heap.size := L2.out.size
  have K4 : Hid (Below W.heap.size W ((w3.alloc (.cells zero32.toArray 28)).setRow w3.heap.size (Bs (sha256 l)).toArray)) := below_setRow' ((L2.out.trans (B3.out.mono s2)).alloc (by omega) _) (by omega) _
  have W4 : Hid (Blk ((w3.alloc (.cells zero32.toArray 28)).setRow w3.heap.size (Bs (sha256 l)).toArray) w3.heap.size 28 (Bs (sha256 l))) := (Blk.new w3 _ _).row _
  have R4 : Hid (RowQ ((w3.alloc (.cells zero32.toArray 28)).setRow w3.heap.size (Bs (sha256 l)).toArray) w1.heap.size 5 1 (.slice A1 q c1) q (Bs l)) := ((R1.out.below B3.out).alloc _).rowFar (by
    intro e
    cases A1 with
    | none => cases e
    | some ad => have := (R1.out.ad ad rfl).2; simp [Value.ownBlock] at e; omega) _
  have A4 : Hid (∀ ad, A1 = some ad → W.heap.size ≤ ad.block ∧ ad.block < w3.heap.size) := fun ad e => by have := R1.out.ad ad e; omega
  have Z4 : Hid (((w3.alloc (.cells zero32.toArray 28)).setRow w3.heap.size (Bs (sha256 l)).toArray).heap.size = w3.heap.size + 1) := by
    show (World.setRow _ _ _).heap.size = _
    rw [size_setRow, hsz]
  have hB1 : W.heap.size ≤ w1.heap.size := s1
  have hB3 : W.heap.size ≤ w3.heap.size := by omega
  generalize (w3.alloc (.cells zero32.toArray 28)).setRow w3.heap.size (Bs (sha256 l)).toArray = w4 at K4 W4 R4 Z4 ⊢
  generalize w3.heap.size = gw at W4 A4 Z4 hB3 ⊢
  generalize w1.heap.size = bb at R4 hB1 ⊢
  clear s1 s2 s3 B3 L2 R1 hqc
  have HL := Lib.hid hlen
  have HQ5 := Lib.hid hq150
  clear hlen hq150
  go_upto_region 8 with (first
    | (go_at_call 24; refine (new_any w4).mono ?_; rintro e w5 ⟨g, rfl, hg, hH, hb⟩; have G5 := Lib.hid hg; have H5 := Lib.hid hH; have B5 := Lib.hid hb; clear hg hH hb)
    | (go_at_call 25; refine (put_any w5 w4.heap.size g st0 (.slice none 0 0) [] 0 A1 q c1 l H5.out (src_below (R4.out.src (Bs_one _)) B5.out) (fun ad e => by have := A4.out ad e; have := G5.out; have := Z4.out; omega) (by omega) (by have := HQ5.out; omega) (by have := HQ5.out; simp; omega) B5.out.size).mono ?_; rintro e w6 ⟨rfl, v6, h6, k6, r6⟩; rw [List.nil_append, Int.zero_add] at h6; have H6 := Lib.hid h6; have K6 := Lib.hid k6; have O6 := Lib.hid r6; clear h6 k6 r6))
  obtain ⟨gb, hgb⟩ : ∃ gb : Nat, (0 < q → ∃ o, A1 = some ⟨gb, o, none⟩) ∧ W.heap.size ≤ gb ∧ gb ≠ gw ∧ gb ≠ g ∧ v6.ownBlock ≠ some gb := by
    have g5 := G5.out
    have z4 := Z4.out
    have s5 := B5.out.size
    have s6 := K6.out.size
    have b3 := hB3
    rcases Nat.eq_zero_or_pos q with h0 | h0
    · refine ⟨w6.heap.size, fun h => by omega, by omega, by omega, ?_, fun e => ?_⟩
      · have := H6.out.1.lt; omega
      · have := (H6.out.2.1.lt _ e).2; omega
    · obtain ⟨gb, o, ha, _, _⟩ := R4.out.blk h0
      have a4 := A4.out _ ha
      simp only at a4
      refine ⟨gb, fun _ => ⟨o, ha⟩, by omega, by omega, by omega, fun e => ?_⟩
      rcases O6.out with h | ⟨k, h, hk⟩
      · rw [h] at e; cases e
      · rw [h] at e; have := Option.some.inj e; omega
  have R6 : Hid (RowQ w6 bb 5 1 (.slice A1 q c1) q (Bs l)) := ((R4.out.below B5.out).of_block (by
    intro k hk
    have h5 := ((R4.out.below B5.out).lt k hk).2
    have h4 := (R4.out.lt k hk)
    refine K6.out.block k h5 ?_ (by intro e; cases e)
    cases A1 with
    | none => cases hk
    | some ad =>
      have := A4.out ad rfl
      have e : ad.block = k := Option.some.inj hk
      have := G5.out
      have := Z4.out
      omega))
  have HG := Lib.hid hgb
  clear hgb
  go_wp2
  go_loopw [24] (fun i wr => ∃ k : Nat, ∃ zs : List Int, k ≤ q ∧ i = .int .i64 k ∧ RowQ wr bb 5 1 (.slice A1 q c1) q (zs.map (Value.int .u8)) ∧ Kept2 w6 wr gb none) (fun i _ => q - (intOf i).toNat)
  case atStart => exact ⟨0, l.map ub, by omega, rfl, by rw [List.map_map]; exact R6.out, Kept2.refl _ _ _⟩
  case round =>
    obtain ⟨k, zs, hk, rfl, hR, hK⟩ := hrel
    by_cases hlt : k < q
    · obtain ⟨o, rfl⟩ := HG.out.1 (by omega)
      have hzl : zs.length = q := by have := hR.1; simpa using this
      obtain ⟨c1', f1'⟩ := hR.cellAt k hlt (.int .u8 (zs.getD k 0)) (by simp [List.getD_eq_getElem?_getD, List.getElem?_eq_getElem (show k < zs.length by omega)])
      have l1 : (k : Int) < (q : Int) := by omega
      have HR := Lib.hid hR
      have HK := Lib.hid hK
      have HLT := Lib.hid hlt
      clear hR hK hzl hk hlt
      go_wp2
      have hlt := HLT.out
      exact ⟨⟨k + 1, zs.set k _, by omega, by simp, by rw [List.map_set]; exact HR.out.setAt k HLT.out _, HK.out.setCell _ _⟩, by simp [intOf]; omega⟩
    · have hk' : k = q := by omega
      subst hk'
      have hg6 := HG.out
      have s5 := B5.out.size
      have s6 := K6.out.size
      have gw6 : gw < w6.heap.size := by have := Z4.out; omega
      have hH : HashAt wr w4.heap.size g (absorb st0 l).1 v6 (absorb st0 l).2 k := ⟨H6.out.1.kept' hK (fun e => hg6.2.2.2.1 e.symm), H6.out.2.1.of_block (fun j hj => hK.block j (H6.out.2.1.lt j hj).2 (fun e => hg6.2.2.2.2 (by rw [hj, e])) (fun e => by cases e)), H6.out.2.2⟩
      have hW : Blk wr gw 28 (Bs (sha256 l)) := ((W4.out.below (B5.out)).kept' K6.out (by have := G5.out; have := Z4.out; omega)).kept' hK (fun e => hg6.2.2.1 e.symm)
      have hd : digest (absorb st0 l).1 (absorb st0 l).2 k = sha256 l := by have := digest_absorb l; rw [HL.out] at this; exact this
      have hfin : Below W.heap.size W wr := by
        have b := K4.out
        have b3 := hB3
        have g5 := G5.out
        have z4 := Z4.out
        exact ⟨hK.os.trans (K6.out.os.trans (B5.out.os.trans b.os)), hK.tape.trans (K6.out.tape.trans (B5.out.tape.trans b.tape)), hK.output.trans (K6.out.output.trans (B5.out.output.trans b.output)), Nat.le_trans b.size (Nat.le_trans s5 (Nat.le_trans s6 hK.size)),
          fun j hj => (hK.block j (by omega) (by omega) (fun e => by cases e)).trans ((K6.out.block j (by omega) (by omega) (fun e => by cases e)).trans ((B5.out.block j (by omega)).trans (b.block j hj)))⟩
      have cS : ∀ w, Below wr.heap.size wr w → Calls Tryz.prog 26 #[.pointer (some ⟨g, 0, none⟩)] w fun e w' => e = .returned (.agg (Bs (sha256 l)).toArray) ∧ Below w.heap.size w w' := fun w hb => by
        rw [← hd]
        have hq5 := HQ5.out
        exact sum_any w w4.heap.size g _ v6 _ k ⟨hH.1.below hb, hH.2.1.below hb, hH.2.2⟩ (by omega) (by rw [absorb_mod]; omega)
      have hq5 := HQ5.out
      have hsl := sha256_length l
      have heq : ∀ w, (binOp .eql 28 (.agg (Bs (sha256 l)).toArray) (.agg (Bs (sha256 l)).toArray)).run Tryz.prog w = .ok (.bool true) w := fun w => by
        rw [run_eql_struct, eqIn_bytes w _ Tryz.underlying28 _ _ hsl hsl, decide_eq_true rfl]; rfl
      have hld : ∀ w, w.heap[gw]? = some (.cells (Bs (sha256 l)).toArray 28 (0, 0)) → (Instr.loadAt 28 (.pointer (some ⟨gw, 0, none⟩))).run Tryz.prog w = .ok (.agg (Bs (sha256 l)).toArray) w := fun w h => by
        have := run_loadVar_row w gw 28 28 _ (0, 0) _ h Tryz.underlying28 rfl (by rw [Tryz.size32]; simp [hsl])
        simpa [Instr.loadAt, Instr.sureAddr] using this
      have hw1 : wr.drew.heap[gw]? = some (.cells (Bs (sha256 l)).toArray 28 (0, 0)) := hW
      have hw0 : wr.heap[gw]? = some (.cells (Bs (sha256 l)).toArray 28 (0, 0)) := hW
      have CS := Lib.hid cS
      have HS32 := Lib.hid hsl
      have HW := Lib.hid hW
      have HF := Lib.hid hfin
      clear hH hW hd hfin cS hR hK hg6 s5 s6 gw6 hq5 hsl hlt hk
      go_wp2
      refine wp_region_any (by kernel_rfl) ?_
      change wpAny _ _ _ _ _ _ _ (World.drew _)
      refine wpAny_take (i := 0) (v := ?_) rfl (by kernel_rfl) (by kernel_rfl) (by kernel_rfl) (fun _ _ _ h => h) (Or.inl ⟨by rfl, ?_⟩) ?_
      rotate_left
      · intro w; go_simp
        try rfl
      refine wpAny_ready (rs := [1, 2]) (by kernel_rfl) (by simp) ?_
      refine AllReady.cons rfl (fun K hK => ?_) (AllReady.cons rfl (fun K hK => ?_) AllReady.nil)
      go_simp
      refine (CS.out wr.drew ⟨rfl, rfl, rfl, Nat.le_refl _, fun _ _ => rfl⟩).mono ?_
      rintro e w8 ⟨rfl, hb⟩
      have B8 : Hid (Below wr.heap.size wr w8) := ⟨hb.os, hb.tape, hb.output, hb.size, hb.block⟩
      clear hb
      refine hK _ _ ?_
      clear hK K
      refine wpAny_ready (rs := [2]) (by kernel_rfl) (by simp) ?_
      refine AllReady.cons rfl (fun K hK => ?_) AllReady.nil
      refine step_load (by rfl) 28 (.tmp 4) rfl gw rfl 28 (Bs (sha256 l)) (HW.out.below B8.out) 32 5 Tryz.underlying28 (by rw [Tryz.size32]; simp [HS32.out]) ?_
      refine hK _ _ ?_
      clear hK K
      rotate_left
      refine step_load (by rfl) 28 (.tmp 4) rfl gw rfl 28 (Bs (sha256 l)) HW.out 32 5 Tryz.underlying28 (by rw [Tryz.size32]; simp [HS32.out]) ?_
      refine hK _ _ ?_
      clear hK K
      refine wpAny_ready (rs := [1]) (by kernel_rfl) (by simp) ?_
      refine AllReady.cons rfl (fun K hK => ?_) AllReady.nil
      go_simp
      refine (CS.out wr.drew ⟨rfl, rfl, rfl, Nat.le_refl _, fun _ _ => rfl⟩).mono ?_
      rintro e w8 ⟨rfl, hb⟩
      have B8 : Hid (Below wr.heap.size wr w8) := ⟨hb.os, hb.tape, hb.output, hb.size, hb.block⟩
      clear hb
      refine hK _ _ ?_
      clear hK K
      all_goals
        refine wpAny_ready (rs := [3]) (by kernel_rfl) (by simp) ?_
        refine AllReady.cons rfl (fun K hK => ?_) AllReady.nil
        go_simp
        refine hK _ _ ?_
        clear hK K
        refine wpAny_ready (rs := [4]) (by kernel_rfl) (by simp) ?_
        refine AllReady.cons rfl (fun K hK => ?_) AllReady.nil
        go_simp
        refine hK _ _ ?_
        clear hK K
        refine wpAny_take (i := 5) (v := ?_) rfl (by kernel_rfl) (by kernel_rfl) (by kernel_rfl) (fun _ _ _ h => h) (Or.inl ⟨by rfl, ?_⟩) ?_
        rotate_left
        · intro w; go_simp
          try rfl
        refine wpAny_ready (rs := [6, 7]) (by kernel_rfl) (by simp) ?_
        refine AllReady.cons rfl (fun K hK => ?_) (AllReady.cons rfl (fun K hK => ?_) AllReady.nil)
        go_simp
        refine (CS.out w8 B8.out).mono ?_
        rintro e w9 ⟨rfl, hb⟩
        have B9 : Hid (Below wr.heap.size wr w9) := B8.out.trans (hb.mono B8.out.size)
        clear hb
        refine hK _ _ ?_
        clear hK K
        refine wpAny_ready (rs := [7]) (by kernel_rfl) (by simp) ?_
        refine AllReady.cons rfl (fun K hK => ?_) AllReady.nil
        refine step_load (by rfl) 28 (.tmp 4) rfl gw rfl 28 (Bs (sha256 l)) (HW.out.below B9.out) 32 5 Tryz.underlying28 (by rw [Tryz.size32]; simp [HS32.out]) ?_
        refine hK _ _ ?_
        clear hK K
        rotate_left
        refine step_load (by rfl) 28 (.tmp 4) rfl gw rfl 28 (Bs (sha256 l)) (HW.out.below B8.out) 32 5 Tryz.underlying28 (by rw [Tryz.size32]; simp [HS32.out]) ?_
        refine hK _ _ ?_
        clear hK K
        refine wpAny_ready (rs := [6]) (by kernel_rfl) (by simp) ?_
        refine AllReady.cons rfl (fun K hK => ?_) AllReady.nil
        go_simp
        refine (CS.out w8 B8.out).mono ?_
        rintro e w9 ⟨rfl, hb⟩
        have B9 : Hid (Below wr.heap.size wr w9) := B8.out.trans (hb.mono B8.out.size)
        clear hb
        refine hK _ _ ?_
        clear hK K
      all_goals
        refine wpAny_ready (rs := [8]) (by kernel_rfl) (by simp) ?_
        refine AllReady.cons rfl (fun K hK => ?_) AllReady.nil
        go_simp
        refine hK _ _ ?_
        clear hK K
        refine wpAny_ready (rs := [9]) (by kernel_rfl) (by simp) ?_
        refine AllReady.cons rfl (fun K hK => ?_) AllReady.nil
        go_simp
        refine hK _ _ ?_
        clear hK K
        refine wpAny_ready (rs := [10]) (by kernel_rfl) (by simp) ?_
        refine AllReady.cons rfl (fun K hK => ?_) AllReady.nil
        go_simp
        refine hK _ _ ?_
        clear hK K
        refine wpAny_done (by kernel_rfl) ?_ _
        go_wp2
        go_ret
        exact ⟨rfl, HF.out.trans (B9.out.mono HF.out.size)⟩
end Go.Proofs.YtpfoohfgochaiaaGreatDoor
