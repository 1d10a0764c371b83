/- TreeFull: twenty entries, and not one more; each is found: the law's walk. -/
import Derived.Test.YtcomibocajjhoaaGreatDoorBn
import Derived.Test.YtcomibocajjhoaaGreatDoorP19x
import Derived.Test.YtcomibocajjhoaaGreatDoorPt
import Derived.Test.YtcomibocajjhoaaGreatDoorP16x
import Derived.Test.YtcomibocajjhoaaGreatDoorP18x
namespace Go.Proofs.YtcomibocajjhoaaGreatDoor
open Go.RowKit
theorem nums_fit (id : Idt) (n : Nat) : NamesFit (numsE id n) := fun e he => by
  obtain ⟨i, _, rfl⟩ := List.mem_map.1 he
  exact Nat.le_of_ble_eq_true rfl
set_option maxRecDepth 20000 in
set_option maxHeartbeats 6400000 in
theorem treeFullLaw_any (W : World) (n : Int) (id : Idt) (hG : Gl W) (hE : Ge W) :
    Calls Tryz.prog 5 #[.int .i64 n, .agg (encI id).toArray] W fun e W' => e = .returned (.bool true) ∧ Below W.heap.size W W' := by
  obtain ⟨q, hq, he⟩ := tmod_round n 25 (by omega) (by omega)
  have q25 : q < 25 := by omega
  obtain ⟨ci, hci⟩ : ∃ ci, ci = encI id := ⟨_, rfl⟩
  have II := Lib.hid (infoId id)
  have HCI := Lib.hid hci
  rw [← hci] at II ⊢
  obtain ⟨w0, hw0⟩ : ∃ w0, w0 = W.alloc (.cells ci.toArray 30) := ⟨_, rfl⟩
  have l0 : Below W.heap.size W w0 := by rw [hw0]; exact (Below.refl _ _).alloc (Nat.le_refl _) _
  have k0 : Blk w0 W.heap.size 30 ci := by rw [hw0]; exact Blk.new W _ _
  have cB := begun6_any w0 (hG.below l0) (hE.below l0)
  have CB := Lib.hid cB
  have L0 := Lib.hid l0
  have HG := Lib.hid (hG.below l0)
  obtain ⟨g, hg⟩ : ∃ g, g = W.heap.size := ⟨_, rfl⟩
  rw [← hg] at k0
  have K0 := Lib.hid k0
  clear cB l0 k0 hci hG hE hq
  go_enter Tryz.func5, Tryz.ntmps5
  go_upto_region 1 with fail
  change Code.wp _ _ _ _ (W.alloc (.cells ci.toArray 30))
  rw [← hw0, ← hg]
  clear hw0 hg
  go_upto_region 7 with (go_at_call 11; refine CB.out.mono ?_; rintro e w1 ⟨rfl, hb⟩; have S1 := Lib.hid hb; clear hb)
  clear he CB
  have K1 : Hid (Blk w1 g 30 ci) := Lib.hid (K0.out.below S1.out)
  have L1 := Lib.hid (L0.out.trans (S1.out.mono L0.out.size))
  have HG1 := Lib.hid (HG.out.below S1.out)
  clear K0 L0 HG S1
  go_loopw [6, 7] (fun v i wr => ∃ k : Nat, k ≤ q ∧ i = .int .i64 k ∧ RowQ wr w1.heap.size 39 34 v k (entE.row (numsE id k)) ∧ Below w1.heap.size w1 wr) (fun _ i _ => q - (intOf i).toNat)
  case atStart => exact ⟨0, Nat.zero_le _, rfl, RowQ.nil _ _ _ _, Below.refl _ _⟩
  case round =>
    obtain ⟨k, hk, rfl, hR, hB⟩ := hrel
    obtain ⟨A1, c1, rfl, hc1, hm1⟩ := hR.shape
    have R1 := Lib.hid hR
    have B1 := Lib.hid hB
    by_cases hlt : k < q
    · have k1 : (k : Int) < (q : Int) := by omega
      have HLT := Lib.hid hlt
      obtain ⟨nb, hnb⟩ : ∃ nb : ByteArray, nb = ⟨(numL k).toArray⟩ := ⟨_, rfl⟩
      obtain ⟨b, hb⟩ : ∃ b : Bool, ((k : Int).tmod 2 == 0) = b := ⟨_, rfl⟩
      have cN := fun w => num_any w k (by omega)
      rw [← hnb] at cN
      have bE : Tryz.prog.built 39 [(0, .string nb), (1, .bool b), (2, .agg ci.toArray)] = some (encE (numE id k)).toArray := by
        have hb2 : b = decide (k % 2 = 0) := by
          rw [← hb, Int.tmod_eq_emod_of_nonneg (by omega), Bool.eq_iff_iff, beq_iff_eq, decide_eq_true_eq]
          omega
        rw [HCI.out, built_ent nb b id, hb2, hnb]
        rfl
      have CN := Lib.hid cN
      have BE := Lib.hid bE
      have NE := Lib.hid (numsE_next id k)
      have hdz : (k : Int) < 25 := by omega
      clear hR hB cN bE hnb hlt hk hm1
      go_upto_region 9 with fail
      refine wp_region_any (by kernel_rfl) ?_
      change wpAny _ _ _ _ _ _ _ (World.drew _)
      have BD := Lib.hid (B1.out.drew)
      have RD := Lib.hid (show RowQ wr.drew w1.heap.size 39 34 (.slice A1 k c1) k (entE.row (numsE id k)) from R1.out)
      generalize World.drew wr = v0 at BD RD ⊢
      clear R1 B1
      have hemp := ext_nonempty v0
      refine wpAny_prefix 2 9 (by rfl) (by kernel_rfl) (fun _ _ _ d _ h => by cases d <;> exact h) ?_
      repeat (first | quiet_step (fail) | go_big_quiet_step (fail))
      refine wpQuiet_nil ?_
      have LD : Hid (∀ w', (∃ s : Ext v0, w' = s.at_) → ∀ j u, ci[j]? = some u → w'.cell? ((⟨g, 0, none⟩ : Addr).add j) = some u) := Lib.hid fun w' ⟨s, hw⟩ j u hu => by
        rw [hw, addr_row _ rfl, Nat.zero_add]
        exact (K1.out.below (BD.out.trans (s.below.mono BD.out.size))).cell j u hu
      refine wpAny_head (C := fun w' => ∃ s : Ext v0, w' = s.at_) 2 8 ⟨⟨v0, Below.refl _ _⟩, rfl⟩ (by kernel_rfl) ?_ (by rfl)
      simp only [List.take_succ_cons, List.take_zero, List.drop_succ_cons, List.drop_zero]
      repeat (first
        | (refine wpQuiet_loadS (by rfl) 30 (.tmp 3) rfl ⟨g, 0, none⟩ rfl ci Tryz.isAgg30 II.out LD.out ?_)
        | (refine wpQuiet_buildP (by rfl) 39 [(0, .tmp 29), (1, .tmp 32), (2, .tmp 33)] rfl (encE (numE id k)) BE.out ?_)
        | quiet_step ((go_at_call 15; exact Ext.call (CN.out _)))
        | go_big_quiet_step ((go_at_call 15; exact Ext.call (CN.out _))))
      refine wpQuiet_nil ?_
      rintro _ ⟨s9, rfl⟩
      have R2 := Lib.hid (RD.out.below s9.below)
      have L2 := Lib.hid (BD.out.trans (s9.below.mono BD.out.size))
      generalize s9.at_ = w2 at R2 L2 ⊢
      clear LD RD BD
      go_wp2_with (first
        | (refine wpl_buildE entE rfl 36 39 1 _ rfl [numE id k] rfl rfl (.agg zeroE.toArray) 56 Tryz.underlying36 (by kernel_rfl) (by decide) (by decide) ?_; have R3 := Lib.hid (R2.out.alloc (.cells (entE.row [numE id k]).toArray 39)); have L3 := Lib.hid (L2.out.alloc L2.out.size (.cells (entE.row [numE id k]).toArray 39)); have S3 := Lib.hid (row_src entE w2 39 [numE id k]); generalize w2.heap.size = g3 at S3 ⊢; generalize World.alloc w2 (.cells (entE.row [numE id k]).toArray 39) = w3 at R3 L3 S3 ⊢)
        | (at_builtin; refine wpl_append rfl (.tmp 27) (.tmp 35) 36 rfl w1.heap.size 39 (.agg zeroE.toArray) 34 56 Tryz.underlying36 (by kernel_rfl) rfl (by decide) (.slice A1 k c1) k (entE.row (numsE id k)) rfl R3.out (some ⟨g3, 0, none⟩) 1 1 (entE.row [numE id k]) rfl S3.out (by have := HLT.out; omega) (by have := HLT.out; omega) L3.out.size ?_; intro v4 w4 hr4 hg4 ha4; have R4 := Lib.hid hr4; have L4 := Lib.hid (L3.out.grown hg4 L3.out.size (fun k e => (R3.out.lt k e).1)); clear hr4 hg4 ha4))
      go_roundw
      case measure => simp [intOf]; have := HLT.out; omega
      case rel => exact ⟨k + 1, HLT.out, by go_num, by rw [NE.out, entE.row_append]; exact R4.out, L4.out⟩
    · have hkq : k = q := by omega
      subst hkq
      have SE : Hid (∀ w, Below wr.heap.size wr w → Src w 34 A1 k (entE.row (numsE id k))) := Lib.hid fun w hw => entE.src_below (R1.out.src (entE.row_one _)) hw
      have cP := fun w (hw : Below wr.heap.size wr w) => treePut_any w A1 k c1 (numsE id k) (SE.out w hw) (by omega) (nums_fit id k)
      unfold putV at cP
      rw [numsE_may id k q25] at cP
      have LW := Lib.hid (L1.out.trans (B1.out.mono L1.out.size))
      have HG2 := Lib.hid (HG1.out.below B1.out)
      clear hR hB hk hlt K1 B1 HG1 II
      by_cases h20 : k ≤ 20
      · rw [decide_eq_true h20, cond_true] at cP
        obtain ⟨tb, htb⟩ : ∃ tb : ByteArray, tb = ⟨(treeB (numsE id k)).toArray⟩ := ⟨_, rfl⟩
        rw [← htb] at cP
        have tbd : tb.data.toList = treeB (numsE id k) := by rw [htb]
        have tz : (tb.size : Int) = (k : Int) * 37 := by rw [ba_size, tbd, numsE_bytes]; omega
        have tz2 : tb.size ≤ 740 := by omega
        have cG := fun w hw => treeGet_any w tb (treeB (numsE id k)) tbd.symm (by omega) hw
        unfold GetTPost at cG
        rw [getT_put (by rw [numsE_may id k q25, decide_eq_true h20])] at cG
        simp only [numsE_len] at cG
        have i20 : ¬ ((k : Int) > 20) := by omega
        have CP := Lib.hid cP
        have CG := Lib.hid cG
        have H20 := Lib.hid h20
        clear cP cG htb tbd tz2 h20 q25
        go_upto_region 15 with (first
          | (go_at_call 16; refine (CP.out _ (Below.refl _ _)).mono ?_; rintro e w2 ⟨rfl, hb⟩; have S2 := Lib.hid hb; clear hb)
          | (go_at_call 17; refine (CG.out _ (HG2.out.below S2.out)).mono ?_; rintro e w3 ⟨A3, c3, rfl, hr, hb⟩; have R3 := Lib.hid hr; have S3 := Lib.hid hb; clear hr hb))
        have B3 : Hid (Below wr.heap.size wr w3) := Lib.hid (S2.out.trans (S3.out.mono S2.out.size))
        have HG3 := Lib.hid (HG2.out.below B3.out)
        have L3 := Lib.hid (LW.out.trans (B3.out.mono LW.out.size))
        clear CP CG S2 S3
        obtain ⟨v0, hv0⟩ : ∃ v, v = wr := ⟨_, rfl⟩
        subst hv0
        go_loopw [57] (fun i wx => ∃ j : Nat, j ≤ k ∧ i = .int .i64 j ∧ Below w3.heap.size w3 wx) (fun i _ => k - (intOf i).toNat)
        case atStart => exact ⟨0, Nat.zero_le _, rfl, Below.refl _ _⟩
        case round =>
          obtain ⟨j, hj, rfl, hbj⟩ := hrel
          have BJ := Lib.hid hbj
          have BW := Lib.hid (L3.out.trans (hbj.mono L3.out.size))
          by_cases hjl : j < k
          · have j1 : (j : Int) < (k : Int) := by omega
            have j2 : (j : Int) < 25 := by have := H20.out; omega
            have JL := Lib.hid hjl
            obtain ⟨nb, hnb⟩ : ∃ nb : ByteArray, nb = ⟨(numL j).toArray⟩ := ⟨_, rfl⟩
            have cN := fun w => num_any w j (by omega)
            rw [← hnb] at cN
            have s3 : ∀ w, Below wr.heap.size wr w → Src w 34 A3 k (entE.row (numsE id k)) := fun w hw => entE.src_below (R3.out.src (entE.row_one _)) (BJ.out.trans (hw.mono BJ.out.size))
            have cF := fun w hw => treeFind_any w A3 k c3 (numsE id k) (s3 w hw) (by have := H20.out; omega) nb (numL j) (by rw [hnb])
            rw [numsE_find id k j (by have := H20.out; omega) hjl] at cF
            obtain ⟨ej, hej⟩ : ∃ ej, ej = numE id j := ⟨_, rfl⟩
            simp only [← hej] at cF
            have CN := Lib.hid cN
            have CF := Lib.hid cF
            have ne : ∀ w, (binOp .neq 39 (.agg (encE ej).toArray) (.agg (encE ej).toArray)).run Tryz.prog w = .ok (.bool false) w := fun w => by have := neqAtE.1 ej ej w; simpa using this
            have gu : ∀ op p q w, (eqGuard op 39 p q (.agg (encE ej).toArray) (.agg (encE ej).toArray)).run Tryz.prog w = .ok () w := fun op p q w => neqAtE.2 op p q ej ej w
            obtain ⟨_, b1, o1, rfl, hat⟩ := entE.src_at (SE.out v0 (Below.refl _ _)) (by omega)
            have AT : Hid (∀ w, Below v0.heap.size v0 w → ∀ i v, (encE ej)[i]? = some v → w.cell? ((⟨b1, o1 + j * 34, none⟩ : Addr).add i) = some v) := Lib.hid fun w hw i v hv => by
              obtain ⟨_, b2, o2, e, hat2⟩ := entE.src_at (SE.out w hw) (by omega)
              injection e with e
              injection e with e4 e5 _
              subst e4; subst e5
              have := hat2 j hjl i v (by rw [numsE_at id k j hjl, ← hej]; exact hv)
              rw [addr_row _ rfl]
              exact this
            have B3J := Lib.hid (B3.out.trans (BJ.out.mono B3.out.size))
            have IE := Lib.hid (infoE ej)
            clear cN cF hnb hej hat s3 hbj hj hjl
            go_upto_region 18 with (first
              | (go_at_call 15; refine (CN.out _).mono ?_; rintro e w4 ⟨rfl, hb⟩; have S4 := Lib.hid hb; clear hb)
              | (go_at_call 18; refine (CF.out _ S4.out).mono ?_; rintro e w5 ⟨rfl, hb⟩; have S5 := Lib.hid (S4.out.trans (hb.mono S4.out.size)); clear hb)
              | (refine wpl_storeS rfl 39 (.tmp 13) _ rfl w5.heap.size (encE ej) rfl rfl 39 zeroE (Blk.new w5 _ _) IE.out (by rw [show (encE ej).length = 34 from entE.len _]; rfl) (entE.one _) ?_))
            generalize hw : World.setRow _ _ _ = w6
            have S6 : Hid (Below wr.heap.size wr w6) := Lib.hid (S5.out.trans (Below.mono (by rw [← hw]; exact (ent_laid w5 ej).1) S5.out.size))
            have K6 : Hid (Blk w6 w5.heap.size 39 (encE ej)) := Lib.hid (by rw [← hw]; exact (ent_laid w5 ej).2)
            clear hw S4 S5 CN CF
            generalize w5.heap.size = g6 at K6 ⊢
            have B6 := Lib.hid (B3J.out.trans (S6.out.mono B3J.out.size))
            have hemp := ext_nonempty w6
            have LD1 : Hid (∀ w', (∃ s : Ext w6, w' = s.at_) → ∀ j u, (encE ej)[j]? = some u → w'.cell? ((⟨g6, 0, none⟩ : Addr).add j) = some u) := Lib.hid fun w' ⟨s, hw⟩ j u hu => by
              rw [hw, addr_row _ rfl, Nat.zero_add]
              exact (K6.out.below s.below).cell j u hu
            have LD2 : Hid (∀ w', (∃ s : Ext w6, w' = s.at_) → ∀ i u, (encE ej)[i]? = some u → w'.cell? ((⟨b1, o1 + j * 34, none⟩ : Addr).add i) = some u) := Lib.hid fun w' ⟨s, hw⟩ i u hu => by
              rw [hw]
              exact AT.out _ (B6.out.trans (s.below.mono B6.out.size)) i u hu
            go_wp2_with fail
            refine wp_region_ext (by kernel_rfl) (by kernel_rfl) ?_
            repeat (first
              | (refine wpQuiet_loadS (by rfl) 39 (.tmp 13) rfl ⟨g6, 0, none⟩ rfl (encE ej) Tryz.isAgg39 IE.out LD1.out ?_)
              | (refine wpQuiet_loadS (by rfl) 39 (.tmp 73) rfl ⟨b1, o1 + j * 34, none⟩ rfl (encE ej) Tryz.isAgg39 IE.out LD2.out ?_)
              | quiet_step (fail)
              | go_big_quiet_step (fail))
            refine wpQuiet_nil ?_
            rintro _ ⟨s9, rfl⟩
            have S9 := Lib.hid (S6.out.trans (s9.below.mono S6.out.size))
            generalize s9.at_ = w9 at S9 ⊢
            go_wp2
            go_roundw
            case measure => simp [intOf]; have := JL.out; omega
            case rel => exact ⟨j + 1, JL.out, by go_num, BJ.out.trans (S9.out.mono BJ.out.size)⟩
          · have hjk : j = k := by omega
            have j1 : ¬ ((j : Int) < (k : Int)) := by omega
            clear hj hjl
            go_wp2
            go_ret
            exact ⟨rfl, BW.out⟩
      · rw [decide_eq_false h20, cond_false] at cP
        have i20 : (k : Int) > 20 := by omega
        have CP := Lib.hid cP
        clear cP h20 q25
        go_wp2_with (go_at_call 16; refine (CP.out _ (Below.refl _ _)).mono ?_; rintro e w2 ⟨rfl, hb⟩; have S2 := Lib.hid hb; clear hb)
        go_ret
        exact ⟨rfl, LW.out.trans (S2.out.mono LW.out.size)⟩
end Go.Proofs.YtcomibocajjhoaaGreatDoor
