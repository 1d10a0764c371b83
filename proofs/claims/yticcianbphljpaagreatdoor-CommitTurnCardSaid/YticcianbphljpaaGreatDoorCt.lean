/- CommitTurn: a commit of which a byte was turned, taken out, put in: the law's walk. (printed by wip/genCt.py) -/
import Derived.Test.YticcianbphljpaaGreatDoorP14x
import Derived.Test.YticcianbphljpaaGreatDoorGc
import Derived.Test.YticcianbphljpaaGreatDoorP15x
import Derived.Test.YticcianbphljpaaGreatDoorP18x
import Derived.Test.YticcianbphljpaaGreatDoorBn
import Derived.Test.YticcianbphljpaaGreatDoorLp
import Derived.Test.YticcianbphljpaaGreatDoorPz
import Derived.Laws.Concat
namespace Go.Proofs.YticcianbphljpaaGreatDoor
open Go.RowKit
set_option maxRecDepth 20000 in
set_option maxHeartbeats 12800000 in
theorem commitTurnLaw_any (W : World) (c : Com) (B : Option Addr) (m d : Nat) (h : ComAt W c B m d) (at_ b : Int) (hb0 : 0 ≤ b) (hb1 : b < 256) (hG : Gl W) (hE : Ge W) :
    Calls Tryz.prog 7 #[.agg (comL c B m d).toArray, .int .i64 at_, .int .u8 b] W fun e W' => e = .returned (.bool true) ∧ Below W.heap.size W W' := by
  obtain ⟨x, hx⟩ : ∃ x : UInt8, b = ub x := ⟨UInt8.ofNat b.toNat, by unfold ub; rw [UInt8.toNat_ofNat']; omega⟩
  subst hx
  obtain ⟨q1, hq1⟩ : ∃ q1 : Nat, q1 = min m 6 := ⟨_, rfl⟩
  obtain ⟨w0, hw0⟩ : ∃ w0, w0 = W.alloc (.cells (comL c B m d).toArray 34) := ⟨_, rfl⟩
  have l0 : Below W.heap.size W w0 := by rw [hw0]; exact (Below.refl _ _).alloc (Nat.le_refl _) _
  have x0 : Blk w0 W.heap.size 34 (comL c B m d) := by rw [hw0]; exact Blk.new W _ _
  have cB := begun6_any w0 (hG.below l0) (hE.below l0)
  have cC := fun w (hw : Below W.heap.size W w) => comCut_any w c B m d (h.below hw) q1 hq1
  have ic := infoC c B m d
  have h64 := h.bits
  obtain ⟨c1, hc1⟩ : ∃ c1 : Com, c1 = ⟨c.tree, c.ps.take q1, c.wh, c.note.take 110⟩ := ⟨_, rfl⟩
  have hps : c.ps.take q1 = c1.ps := by rw [hc1]
  have h641 : c1.wh < 18446744073709551616 := by rw [hc1]; exact h64
  have hnz : c1.note.length ≤ 1048576 := by rw [hc1]; exact Nat.le_trans (List.length_take_le _ _) (by decide)
  have hql : q1 ≤ 6 := by omega
  rw [← hc1, hps] at cC
  obtain ⟨g, hg⟩ : ∃ g, g = W.heap.size := ⟨_, rfl⟩
  rw [← hg] at x0
  obtain ⟨cl, hcl⟩ : ∃ cl, cl = comL c B m d := ⟨_, rfl⟩
  rw [← hcl] at hw0 x0 cC ic ⊢
  have cP := fun w B2 d2 (hr : RowQ w w0.heap.size 25 32 (.slice B2 q1 d2) q1 (rowI c1.ps)) (h2 : Gl w) => commitPut_any w c1 B2 q1 d2 (comAt_row hr h641 hnz) (by omega) h2
  have CB := Lib.hid cB
  have CC := Lib.hid cC
  have X0 := Lib.hid x0
  have L0 := Lib.hid l0
  have IC := Lib.hid ic
  have HG := Lib.hid hG
  have HE := Lib.hid hE
  unfold putCV at cP
  clear cB cC x0 l0 ic hG hE hc1 hps hnz hcl h hq1 hb0 hb1 hql h64
  cases hm : mayC c1
  · rw [hm] at cP
    have CP := Lib.hid cP
    clear cP hm h641
    go_enter Tryz.func7, Tryz.ntmps7
    go_upto_region 1 with fail
    change Code.wp _ _ _ _ (W.alloc (.cells cl.toArray 34))
    rw [← hw0, ← hg]
    clear hw0 hg
    go_wp2_with (first
      | (go_at_call 13; refine CB.out.mono ?_; rintro e w1 ⟨rfl, hb⟩; have X1 := Lib.hid (X0.out.below hb); have B1 := Lib.hid hb; have L1 := Lib.hid (L0.out.trans (hb.mono L0.out.size)); clear hb)
      | (refine wpl_loadS rfl 34 (.tmp 3) rfl ⟨g, 0, none⟩ rfl cl Tryz.isAgg34 IC.out (fun j u hu => by rw [addr_row _ rfl, Nat.zero_add]; exact X1.out.cell j u hu) ?_)
      | (go_at_call 16; refine (CC.out _ L1.out).mono ?_; rintro e w2 ⟨B2, d2, rfl, hr, hb⟩; have R2 := Lib.hid (hr.mono B1.out.size); have L2 := Lib.hid (L1.out.trans (hb.mono L1.out.size)); clear hr hb)
      | (go_at_call 18; refine (CP.out _ B2 d2 R2.out (HG.out.below L2.out)).mono ?_; rintro e w3 ⟨rfl, hb⟩; have L3 := Lib.hid (L2.out.trans (hb.mono L2.out.size)); clear hb))
    go_ret
    exact ⟨rfl, L3.out⟩
  · rw [hm] at cP
    obtain ⟨sb, hsb⟩ : ∃ sb : ByteArray, sb = ⟨(commitB c1).toArray⟩ := ⟨_, rfl⟩
    simp only [cond_true] at cP
    rw [← hsb] at cP
    have hsz : sb.size ≤ 1100 := by
      have := commitB_len c1 h641 hm
      rw [ba_size, hsb]
      show (commitB c1).length ≤ 1100
      omega
    have hz0 : 0 < sb.size := by
      rw [ba_size, hsb]
      show 0 < (commitB c1).length
      unfold commitB
      simp [treeW]
    have CP := Lib.hid cP
    have SZ := Lib.hid hsz
    have SP := Lib.hid hz0
    clear cP hm h641 hsb hsz hz0
    go_enter Tryz.func7, Tryz.ntmps7
    go_upto_region 1 with fail
    change Code.wp _ _ _ _ (W.alloc (.cells cl.toArray 34))
    rw [← hw0, ← hg]
    clear hw0 hg
    go_upto_region 5 with (first
      | (go_at_call 13; refine CB.out.mono ?_; rintro e w1 ⟨rfl, hb⟩; have X1 := Lib.hid (X0.out.below hb); have B1 := Lib.hid hb; have L1 := Lib.hid (L0.out.trans (hb.mono L0.out.size)); clear hb)
      | (refine wpl_loadS rfl 34 (.tmp 3) rfl ⟨g, 0, none⟩ rfl cl Tryz.isAgg34 IC.out (fun j u hu => by rw [addr_row _ rfl, Nat.zero_add]; exact X1.out.cell j u hu) ?_)
      | (go_at_call 16; refine (CC.out _ L1.out).mono ?_; rintro e w2 ⟨B2, d2, rfl, hr, hb⟩; have R2 := Lib.hid (hr.mono B1.out.size); have L2 := Lib.hid (L1.out.trans (hb.mono L1.out.size)); clear hr hb)
      | (go_at_call 18; refine (CP.out _ B2 d2 R2.out (HG.out.below L2.out)).mono ?_; rintro e w3 ⟨rfl, hb⟩; have B3 := Lib.hid (L2.out.trans (hb.mono L2.out.size)); clear hb))
    clear CB CC CP X0 X1 B1 L0 L1 L2 R2 IC
    generalize (⟨g, 0, none⟩ : Addr) = ag
    by_cases hneg : at_ < 0
    · go_wp2
      go_ret
      exact ⟨rfl, B3.out⟩
    · obtain ⟨sl, hsl⟩ : ∃ sl, sl = sb.data.toList := ⟨_, rfl⟩
      have hz0 := SP.out
      have hll : sl.length = sb.size := by rw [hsl, ← ba_size]
      obtain ⟨k, hk⟩ : ∃ k : Nat, at_ % (sb.size : Int) = (k : Int) := ⟨(at_ % (sb.size : Int)).toNat, by have := Int.emod_nonneg at_ (show (sb.size : Int) ≠ 0 by omega); omega⟩
      have hkl : k < sb.size := by have := Int.emod_lt_of_pos at_ (show (0 : Int) < (sb.size : Int) by omega); omega
      have hk2 : at_.tmod (sb.size : Int) = (k : Int) := by rw [Int.tmod_eq_emod_of_nonneg (by omega)]; exact hk
      have hnz : ¬ (sb.size : Int) = 0 := by omega
      have hkw : wrap64 (k : Int) = (k : Int) := by have := SZ.out; unfold wrap64; omega
      obtain ⟨c0, hcv⟩ : ∃ c0, (convert 9 47 (.string sb)).run Tryz.prog w3 = .ok (.slice (some ⟨w3.heap.size, 0, none⟩) sb.size c0) (Lib.bytesWorld w3 5 sb) := by
        have hs1 : Tryz.prog.underlying 9 = some .string := by kernel_rfl
        have he1 : Tryz.prog.underlying 5 = some (.int .u8) := by kernel_rfl
        exact ⟨_, Lib.run_convert_string_bytes (P := Tryz.prog) w3 9 47 5 sb hs1 Tryz.underlying47 he1⟩
      have p3 := PB.new w3 sb sl hsl
      have b3 : Below w3.heap.size w3 (Lib.bytesWorld w3 5 sb) := ⟨rfl, rfl, rfl, by rw [Lib.bytesWorld_size]; omega, fun k hk => Lib.bytesWorld_at_old w3 5 sb k hk⟩
      have HCV := Lib.hid hcv
      generalize Lib.bytesWorld w3 5 sb = w2 at p3 b3 HCV
      obtain ⟨p, hp⟩ : ∃ p, p = sl.set k x := ⟨_, rfl⟩
      have p4 := p3.set k x
      rw [← hp] at p4
      have x3 := p3.frozen k (by omega)
      have x4 := p3.cell k (by omega)
      have l4 : Below W.heap.size W (w2.setCell ⟨w3.heap.size, k, none⟩ (.int .u8 (ub x))) := below_setCell' (B3.out.trans (b3.mono B3.out.size)) w3.heap.size k B3.out.size _
      have PL : Hid (p.length = sb.size) := Lib.hid (by rw [hp, List.length_set, hll])
      have P4 := Lib.hid p4
      have L4 := Lib.hid l4
      have KLT := Lib.hid hkl
      have c9 : (k : Int) < (sb.size : Int) := by omega
      clear p4 l4 p3 b3 hp hll hcv hsl hk hz0 hkl SP
      go_upto_region 9 with (refine wpl_convw rfl 9 47 _ rfl _ rfl _ w2 HCV.out ?_)
      clear hk2 HCV hkw
      go_upto_region 10 with fail
      clear x3 x4 hnz c9 B3
      generalize w2.setCell ⟨w3.heap.size, k, none⟩ (.int .u8 (ub x)) = w4 at P4 L4 ⊢
      generalize w3.heap.size = g at P4 ⊢
      generalize c0 = c at P4 ⊢
      obtain ⟨u, hu⟩ : ∃ u : ByteArray, u = ⟨p.toArray⟩ := ⟨_, rfl⟩
      have uz : u.size = sb.size := by rw [hu, ba_size]; exact PL.out
      have hc4 : ∀ w, Below w4.heap.size w4 w → (convert 47 9 (.slice (some ⟨g, 0, none⟩) sb.size c)).run Tryz.prog w = .ok (.string u) w := fun w hb => by rw [hu]; exact run_str _ _ _ _ _ ((P4.out.below hb).src sb.size PL.out)
      have HC4 := Lib.hid hc4
      obtain ⟨k1, hk1⟩ : ∃ k1, k1 = k + 1 := ⟨_, rfl⟩
      have zz := SZ.out
      have kl := KLT.out
      have jb : wrap64 ((k : Int) + 1) = (k1 : Int) := by unfold wrap64; omega
      have jb2 : IntKind.i64.wrap ((k : Int) + 1) = (k1 : Int) := by first | exact jb | (simp only [go_sem]; exact jb) | (simp [IntKind.wrap, IntKind.signed, IntKind.bits]; omega)
      have kz : (k : Int) ≤ (sb.size : Int) := by omega
      have kz1 : (k1 : Int) ≤ (sb.size : Int) := by omega
      obtain ⟨a1, ha1⟩ : ∃ a : ByteArray, sb.extract 0 k = a := ⟨_, rfl⟩
      obtain ⟨a2, ha2⟩ : ∃ a : ByteArray, sb.extract k1 sb.size = a := ⟨_, rfl⟩
      obtain ⟨a3, ha3⟩ : ∃ a : ByteArray, sb.extract k sb.size = a := ⟨_, rfl⟩
      obtain ⟨bb, hbb⟩ : ∃ b : ByteArray, b = ⟨[x].toArray⟩ := ⟨_, rfl⟩
      have z1 : a1.size ≤ 1100 := by rw [← ha1, ByteArray.size_extract]; omega
      have z2 : a2.size ≤ 1100 := by rw [← ha2, ByteArray.size_extract]; omega
      have z3 : a3.size ≤ 1100 := by rw [← ha3, ByteArray.size_extract]; omega
      have zb : bb.size = 1 := by rw [hbb, ba_size]; rfl
      have zab : (a1 ++ bb).size ≤ 1101 := by rw [ByteArray.size_append]; omega
      have hadd1 : ∀ w, (Op.stringOp .add a1 a2).run Tryz.prog w = .ok (.string (a1 ++ a2)) w := fun w => run_string_add_sum w _ _ (by omega)
      have hadd2 : ∀ w, (Op.stringOp .add a1 bb).run Tryz.prog w = .ok (.string (a1 ++ bb)) w := fun w => run_string_add_sum w _ _ (by omega)
      have hadd3 : ∀ w, (Op.stringOp .add (a1 ++ bb) a3).run Tryz.prog w = .ok (.string (a1 ++ bb ++ a3)) w := fun w => run_string_add_sum w _ _ (by omega)
      have y1 : (a1 ++ a2).size ≤ 2200 := by rw [ByteArray.size_append]; omega
      have y2 : (a1 ++ bb ++ a3).size ≤ 2201 := by rw [ByteArray.size_append]; omega
      have Y1 := Lib.hid y1
      have Y2 := Lib.hid y2
      have Y0 := Lib.hid (show u.size ≤ 1100 by omega)
      have HBB := Lib.hid hbb
      clear hu uz hc4 zz kl hk1 hbb y1 y2
      go_upto_region 10 with fail
      go_cut [66, 67, 68] (fun v n i wx => ∃ g3, v = .slice (some ⟨g3, 0, none⟩) 3 3 ∧ n = .int .i64 3 ∧ i = .int .i64 0 ∧ Below W.heap.size W wx ∧ Blk wx g3 9 [.string u, .string (a1 ++ a2), .string (a1 ++ bb ++ a3)])
      case first =>
        refine wp_region_any (by kernel_rfl) ?_
        change wpAny _ _ _ _ _ _ _ (World.drew _)
        have V0 : Hid (Below w4.heap.size w4 w4.drew) := Lib.hid (Below.refl _ _).drew
        generalize World.drew w4 = v0 at V0 ⊢
        refine wpAny_bare [0, 2, 3, 4, 5, 6, 7, 8, 9, 10, 11, 12, 13, 17, 18, 19, 23] 7 (by rfl) (by kernel_rfl) (fun _ _ _ d _ h => by cases d <;> exact h) ?_
        simp only [bareO, List.filterMap_cons, List.filterMap_nil, List.getElem?_toArray, List.getElem?_cons_succ, List.getElem?_cons_zero]
        repeat (first | quiet_step (fail) | go_big_quiet_step (fail))
        refine wpQuiet_nil ?_
        clear z1 z2 z3 zb zab kz kz1 jb jb2 ha1 ha2 ha3 hadd1
        refine wpAny_ready (rs := [1, 14]) (by kernel_rfl) (by simp) ?_
        refine (AllReady.cons rfl (fun K hK => ?_) (AllReady.cons rfl (fun K hK => ?_) AllReady.nil))
        refine step_convB (by rfl) 47 9 (.tmp 45) rfl (.string u) (HC4.out v0 V0.out) ?_
        refine hK _ _ ?_
        clear hK K
        refine wpAny_ready (rs := [14]) (by kernel_rfl) (by simp) ?_
        refine (AllReady.cons rfl (fun K hK => ?_) AllReady.nil)
        refine step_buildB (by rfl) (.tmp 58) rfl (ub x) rfl ?_
        refine hK _ _ ?_
        clear hK K
        refine wpAny_ready (rs := [15]) (by kernel_rfl) (by simp) ?_
        refine (AllReady.cons rfl (fun K hK => ?_) AllReady.nil)
        refine step_convB (by rfl) 47 9 (.tmp 59) rfl (.string bb) (by rw [HBB.out]; exact run_str _ _ 1 1 [x] (byte_src v0 x)) ?_
        refine hK _ _ ?_
        clear hK K
        refine wpAny_ready (rs := [16]) (by kernel_rfl) (by simp) ?_
        refine (AllReady.cons rfl (fun K hK => ?_) AllReady.nil)
        go_simp
        refine hK _ _ ?_
        clear hK K
        refine wpAny_ready (rs := [20]) (by kernel_rfl) (by simp) ?_
        refine (AllReady.cons rfl (fun K hK => ?_) AllReady.nil)
        go_simp
        refine hK _ _ ?_
        clear hK K
        refine wpAny_ready (rs := [21]) (by kernel_rfl) (by simp) ?_
        refine (AllReady.cons rfl (fun K hK => ?_) AllReady.nil)
        go_simp
        refine hK _ _ ?_
        clear hK K
        refine wpAny_ready (rs := [22]) (by kernel_rfl) (by simp) ?_
        refine (AllReady.cons rfl (fun K hK => ?_) AllReady.nil)
        go_simp
        refine hK _ _ ?_
        clear hK K
        refine wpAny_done (by kernel_rfl) ?_ _
        rotate_left
        refine step_buildB (by rfl) (.tmp 58) rfl (ub x) rfl ?_
        refine hK _ _ ?_
        clear hK K
        refine wpAny_ready (rs := [1, 15]) (by kernel_rfl) (by simp) ?_
        refine (AllReady.cons rfl (fun K hK => ?_) (AllReady.cons rfl (fun K hK => ?_) AllReady.nil))
        refine step_convB (by rfl) 47 9 (.tmp 45) rfl (.string u) (HC4.out (v0.alloc (.cells #[.int .u8 (ub x)] 5)) (V0.out.alloc V0.out.size _)) ?_
        refine hK _ _ ?_
        clear hK K
        refine wpAny_ready (rs := [15]) (by kernel_rfl) (by simp) ?_
        refine (AllReady.cons rfl (fun K hK => ?_) AllReady.nil)
        refine step_convB (by rfl) 47 9 (.tmp 59) rfl (.string bb) (by rw [HBB.out]; exact run_str _ _ 1 1 [x] (byte_src v0 x)) ?_
        refine hK _ _ ?_
        clear hK K
        refine wpAny_ready (rs := [16]) (by kernel_rfl) (by simp) ?_
        refine (AllReady.cons rfl (fun K hK => ?_) AllReady.nil)
        go_simp
        refine hK _ _ ?_
        clear hK K
        refine wpAny_ready (rs := [20]) (by kernel_rfl) (by simp) ?_
        refine (AllReady.cons rfl (fun K hK => ?_) AllReady.nil)
        go_simp
        refine hK _ _ ?_
        clear hK K
        refine wpAny_ready (rs := [21]) (by kernel_rfl) (by simp) ?_
        refine (AllReady.cons rfl (fun K hK => ?_) AllReady.nil)
        go_simp
        refine hK _ _ ?_
        clear hK K
        refine wpAny_ready (rs := [22]) (by kernel_rfl) (by simp) ?_
        refine (AllReady.cons rfl (fun K hK => ?_) AllReady.nil)
        go_simp
        refine hK _ _ ?_
        clear hK K
        refine wpAny_done (by kernel_rfl) ?_ _
        rotate_left
        refine step_convB (by rfl) 47 9 (.tmp 59) rfl (.string bb) (by rw [HBB.out]; exact run_str _ _ 1 1 [x] (byte_src v0 x)) ?_
        refine hK _ _ ?_
        clear hK K
        refine wpAny_ready (rs := [1, 16]) (by kernel_rfl) (by simp) ?_
        refine (AllReady.cons rfl (fun K hK => ?_) (AllReady.cons rfl (fun K hK => ?_) AllReady.nil))
        refine step_convB (by rfl) 47 9 (.tmp 45) rfl (.string u) (HC4.out (v0.alloc (.cells #[.int .u8 (ub x)] 5)) (V0.out.alloc V0.out.size _)) ?_
        refine hK _ _ ?_
        clear hK K
        refine wpAny_ready (rs := [16]) (by kernel_rfl) (by simp) ?_
        refine (AllReady.cons rfl (fun K hK => ?_) AllReady.nil)
        go_simp
        refine hK _ _ ?_
        clear hK K
        refine wpAny_ready (rs := [20]) (by kernel_rfl) (by simp) ?_
        refine (AllReady.cons rfl (fun K hK => ?_) AllReady.nil)
        go_simp
        refine hK _ _ ?_
        clear hK K
        refine wpAny_ready (rs := [21]) (by kernel_rfl) (by simp) ?_
        refine (AllReady.cons rfl (fun K hK => ?_) AllReady.nil)
        go_simp
        refine hK _ _ ?_
        clear hK K
        refine wpAny_ready (rs := [22]) (by kernel_rfl) (by simp) ?_
        refine (AllReady.cons rfl (fun K hK => ?_) AllReady.nil)
        go_simp
        refine hK _ _ ?_
        clear hK K
        refine wpAny_done (by kernel_rfl) ?_ _
        rotate_left
        go_simp
        refine hK _ _ ?_
        clear hK K
        refine wpAny_ready (rs := [1, 20]) (by kernel_rfl) (by simp) ?_
        refine (AllReady.cons rfl (fun K hK => ?_) (AllReady.cons rfl (fun K hK => ?_) AllReady.nil))
        refine step_convB (by rfl) 47 9 (.tmp 45) rfl (.string u) (HC4.out (v0.alloc (.cells #[.int .u8 (ub x)] 5)) (V0.out.alloc V0.out.size _)) ?_
        refine hK _ _ ?_
        clear hK K
        refine wpAny_ready (rs := [20]) (by kernel_rfl) (by simp) ?_
        refine (AllReady.cons rfl (fun K hK => ?_) AllReady.nil)
        go_simp
        refine hK _ _ ?_
        clear hK K
        refine wpAny_ready (rs := [21]) (by kernel_rfl) (by simp) ?_
        refine (AllReady.cons rfl (fun K hK => ?_) AllReady.nil)
        go_simp
        refine hK _ _ ?_
        clear hK K
        refine wpAny_ready (rs := [22]) (by kernel_rfl) (by simp) ?_
        refine (AllReady.cons rfl (fun K hK => ?_) AllReady.nil)
        go_simp
        refine hK _ _ ?_
        clear hK K
        refine wpAny_done (by kernel_rfl) ?_ _
        rotate_left
        go_simp
        refine hK _ _ ?_
        clear hK K
        refine wpAny_ready (rs := [1]) (by kernel_rfl) (by simp) ?_
        refine (AllReady.cons rfl (fun K hK => ?_) AllReady.nil)
        refine step_convB (by rfl) 47 9 (.tmp 45) rfl (.string u) (HC4.out (v0.alloc (.cells #[.int .u8 (ub x)] 5)) (V0.out.alloc V0.out.size _)) ?_
        refine hK _ _ ?_
        clear hK K
        refine wpAny_ready (rs := [21]) (by kernel_rfl) (by simp) ?_
        refine (AllReady.cons rfl (fun K hK => ?_) AllReady.nil)
        go_simp
        refine hK _ _ ?_
        clear hK K
        refine wpAny_ready (rs := [22]) (by kernel_rfl) (by simp) ?_
        refine (AllReady.cons rfl (fun K hK => ?_) AllReady.nil)
        go_simp
        refine hK _ _ ?_
        clear hK K
        refine wpAny_done (by kernel_rfl) ?_ _
        rotate_left
        all_goals
          go_wp2
          go_meet
          exact ⟨_, rfl, rfl, rfl, ((L4.out.trans (V0.out.mono L4.out.size)).alloc (L4.out.trans (V0.out.mono L4.out.size)).size _).alloc ((L4.out.trans (V0.out.mono L4.out.size)).alloc (L4.out.trans (V0.out.mono L4.out.size)).size _).size _, (by have h := Blk.new (v0.alloc (.cells #[.int .u8 (ub x)] 5)) 9 [.string u, .string (a1 ++ a2), .string (a1 ++ bb ++ a3)]; rw [hsz] at h; exact h)⟩
      case rest =>
        obtain ⟨g3, rfl, rfl, rfl, hlc, hkc⟩ := hcut
        have LC := Lib.hid hlc
        have hx3 : ∀ w, Below wc.heap.size wc w → ∀ j : Nat, j < 3 → ∃ y : ByteArray, w.cell? ⟨g3, j, none⟩ = some (.string y) ∧ y.size ≤ 2300 := fun w hw j hj => by
          have hk := hkc.below hw
          have z0 := Y0.out
          have z1 := Y1.out
          have z2 := Y2.out
          rcases j with _ | _ | _ | j
          · exact ⟨u, hk.cell 0 _ rfl, by omega⟩
          · exact ⟨_, hk.cell 1 _ rfl, by omega⟩
          · exact ⟨_, hk.cell 2 _ rfl, by omega⟩
          · omega
        have HX := Lib.hid hx3
        clear hlc hkc hx3 Y0 Y1 Y2 HC4 HBB P4 L4 PL KLT SZ
        go_upto_region 11 with fail
        as_aux_lemma =>
          go_loopw [68] (fun i wx => ∃ j : Nat, j ≤ 3 ∧ i = .int .i64 j ∧ Below wc.heap.size wc wx) (fun i _ => 3 - (intOf i).toNat)
          case atStart => exact ⟨0, Nat.zero_le _, rfl, Below.refl _ _⟩
          case round =>
            obtain ⟨j, hj, rfl, hbj⟩ := hrel
            have BJ := Lib.hid hbj
            have LJ := Lib.hid (LC.out.trans (hbj.mono LC.out.size))
            have HGJ := Lib.hid (HG.out.below LJ.out)
            have HEJ := Lib.hid (HE.out.below LJ.out)
            by_cases hlt : j < 3
            · have j1 : (j : Int) < 3 := by omega
              obtain ⟨y, hcell, hyz⟩ := HX.out _ BJ.out j hlt
              have HLT := Lib.hid hlt
              have cG := fun w hw hv => commitGet_any w y y.data.toList rfl (by omega) hw hv
              have cR := fun w => rgetCommit_any w y y.data.toList rfl (by omega)
              unfold GetCPost at cG
              unfold RGetCPost at cR
              cases hgt : getC y.data.toList with
              | none =>
                rw [hgt] at cG cR
                simp only at cG cR
                have cE := fun w => reqC_any w noCom noCom none 0 0 none 0 0 (noComAt w) (noComAt w) (by decide) (by decide)
                rw [eqC_self] at cE
                have cP := fun w hg => commitPut_any w noCom none 0 0 (noComAt w) (by decide) hg
                unfold putCV at cP
                generalize mayC noCom = pm at cP
                generalize (⟨(bif pm then commitB noCom else []).toArray⟩ : ByteArray) = pbb at cP
                have hzc : comL noCom none 0 0 = zeroC := rfl
                rw [hzc] at cE cP
                have CG := Lib.hid cG
                have CR := Lib.hid cR
                have CE := Lib.hid cE
                have CP := Lib.hid cP
                have IZ := Lib.hid infoZC
                have OZ : Hid (∀ v ∈ zeroC, v.oneCell' = true) := Lib.hid (comL_one _ _ _ _)
                have LZ : Hid (zeroC.length = 35) := Lib.hid (comL_len _ _ _ _)
                clear cG cR cE cP hzc hgt hyz hlt hj hbj
                as_aux_lemma =>
                  go_upto_region 14 with (first
                    | (go_at_call 21; refine (CG.out _ HGJ.out HEJ.out).mono ?_; rintro e w4 ⟨rfl, hb⟩; have B4 := Lib.hid (BJ.out.trans (hb.mono BJ.out.size)); clear hb)
                    | (refine wpl_storeS rfl 34 (.tmp 14) _ rfl w4.heap.size zeroC rfl rfl 34 zeroC (Blk.new w4 _ _) IZ.out rfl OZ.out ?_))
                  generalize hw5 : World.setRow _ _ _ = w5
                  have S5 : Below w4.heap.size w4 w5 := by rw [← hw5]; exact (laidS w4 34 zeroC _).1
                  have K5 : Hid (Blk w5 w4.heap.size 34 zeroC) := Lib.hid (by rw [← hw5]; exact (laidS w4 34 zeroC _).2)
                  have B5 := Lib.hid (B4.out.trans (S5.mono B4.out.size))
                  clear hw5 S5 B4
                  generalize w4.heap.size = g5 at K5 ⊢
                  go_upto_region 15 with (first
                    | (go_at_call 32; refine (CR.out _).mono ?_; rintro e w6 ⟨rfl, hb⟩; have K6 := Lib.hid (K5.out.below hb); have B6 := Lib.hid (B5.out.trans (hb.mono B5.out.size)); clear hb)
                    | (refine wpl_storeS rfl 34 (.tmp 16) _ rfl w6.heap.size zeroC rfl rfl 34 zeroC (Blk.new w6 _ _) IZ.out rfl OZ.out ?_))
                  generalize hw7 : World.setRow _ _ _ = w7
                  have S7 : Below w6.heap.size w6 w7 := by rw [← hw7]; exact (laidS w6 34 zeroC _).1
                  have H7 : Hid (Blk w7 w6.heap.size 34 zeroC) := Lib.hid (by rw [← hw7]; exact (laidS w6 34 zeroC _).2)
                  have K7 := Lib.hid (K6.out.below S7)
                  have B7 := Lib.hid (B6.out.trans (S7.mono B6.out.size))
                  clear hw7 S7 B6 B5 K5 K6
                  generalize w6.heap.size = g7 at H7 ⊢
                  go_wp2_with (first
                    | (refine wpl_guard (by rfl) ?_; refine wpl_loadS rfl 34 (.tmp 14) rfl ⟨g5, 0, none⟩ rfl zeroC Tryz.isAgg34 IZ.out (fun j u hu => by rw [addr_row _ rfl, Nat.zero_add]; exact K7.out.cell j u hu) ?_)
                    | (refine wpl_guard (by rfl) ?_; refine wpl_loadS rfl 34 (.tmp 16) rfl ⟨g7, 0, none⟩ rfl zeroC Tryz.isAgg34 IZ.out (fun j u hu => by rw [addr_row _ rfl, Nat.zero_add]; exact H7.out.cell j u hu) ?_)
                    | (go_at_call 31; refine (CE.out _).mono ?_; rintro e w8 ⟨rfl, hb⟩; have K8 := Lib.hid (K7.out.below hb); have B8 := Lib.hid (B7.out.trans (hb.mono B7.out.size)); clear hb)
                    | (refine wpl_loadS rfl 34 (.tmp 14) rfl ⟨g5, 0, none⟩ rfl zeroC Tryz.isAgg34 IZ.out (fun j u hu => by rw [addr_row _ rfl, Nat.zero_add]; exact K8.out.cell j u hu) ?_)
                    | (go_at_call 18; refine (CP.out _ (HG.out.below (LC.out.trans (B8.out.mono LC.out.size)))).mono ?_; rintro e w9 ⟨rfl, hb⟩; have B9 := Lib.hid (B8.out.trans (hb.mono B8.out.size)); clear hb))
                  go_roundw
                  case measure => exact meas_step3 3 j HLT.out
                  case rel => exact ⟨j + 1, HLT.out, by go_num, B9.out⟩
              | some cc =>
                rw [hgt] at cG cR
                simp only at cG cR
                obtain ⟨h64, hmy, _⟩ := getC_iff.1 hgt
                obtain ⟨hp4, hn4⟩ := mayC_fit hmy
                have hpv := putCV_back hgt y rfl
                obtain ⟨cn, hcn⟩ : ∃ cn, cn = cc.ps.length := ⟨_, rfl⟩
                rw [← hcn] at cG cR hp4
                have cE := fun w A d A' d' (h1 : ComAt w cc A cn d) (h2 : ComAt w cc A' cn d') => reqC_any w cc cc A cn d A' cn d' h1 h2 (by omega) (by omega)
                rw [eqC_self] at cE
                have cP := fun w A d (h1 : ComAt w cc A cn d) hg => commitPut_any w cc A cn d h1 (by omega) hg
                rw [hpv] at cP
                have CG := Lib.hid cG
                have CR := Lib.hid cR
                have CE := Lib.hid cE
                have CP := Lib.hid cP
                have CA : Hid (∀ {w : World} {B : Nat} {A : Option Addr} {d : Nat}, RowQ w B 25 32 (.slice A cn d) cn (rowI cc.ps) → ComAt w cc A cn d) := Lib.hid (fun hr => comAt_row hr h64 (by omega))
                have hyy : (y.toList == y.toList) = true := beq_self_eq_true _
                have hyy2 : (y.toList != y.toList) = false := bne_self_eq_false _
                clear cG cR cE cP hgt hyz hlt hj hbj hp4 hn4 hpv hcn h64 hmy
                as_aux_lemma =>
                  go_upto_region 14 with (first
                    | (go_at_call 21; refine (CG.out _ HGJ.out HEJ.out).mono ?_; rintro e w4 ⟨A4, d4, rfl, hr, hb⟩; have R4 := Lib.hid hr; have B4 := Lib.hid (BJ.out.trans (hb.mono BJ.out.size)); clear hr hb)
                    | (refine wpl_storeS rfl 34 (.tmp 14) _ rfl w4.heap.size (comL cc A4 cn d4) rfl rfl 34 zeroC (Blk.new w4 _ _) (infoC _ _ _ _) (by rw [comL_len]; rfl) (comL_one _ _ _ _) ?_))
                  generalize hw5 : World.setRow _ _ _ = w5
                  have S5 : Below w4.heap.size w4 w5 := by rw [← hw5]; exact (laidS w4 34 zeroC _).1
                  have K5 : Hid (Blk w5 w4.heap.size 34 (comL cc A4 cn d4)) := Lib.hid (by rw [← hw5]; exact (laidS w4 34 zeroC _).2)
                  have R5 := Lib.hid (R4.out.below S5)
                  have B5 := Lib.hid (B4.out.trans (S5.mono B4.out.size))
                  clear hw5 S5 B4 R4
                  generalize w4.heap.size = g5 at K5 ⊢
                  go_upto_region 15 with (first
                    | (go_at_call 32; refine (CR.out _).mono ?_; rintro e w6 ⟨A6, d6, rfl, hr, hb⟩; have T6 := Lib.hid hr; have R6 := Lib.hid (R5.out.below hb); have K6 := Lib.hid (K5.out.below hb); have B6 := Lib.hid (B5.out.trans (hb.mono B5.out.size)); clear hr hb)
                    | (refine wpl_storeS rfl 34 (.tmp 16) _ rfl w6.heap.size (comL cc A6 cn d6) rfl rfl 34 zeroC (Blk.new w6 _ _) (infoC _ _ _ _) (by rw [comL_len]; rfl) (comL_one _ _ _ _) ?_))
                  generalize hw7 : World.setRow _ _ _ = w7
                  have S7 : Below w6.heap.size w6 w7 := by rw [← hw7]; exact (laidS w6 34 zeroC _).1
                  have H7 : Hid (Blk w7 w6.heap.size 34 (comL cc A6 cn d6)) := Lib.hid (by rw [← hw7]; exact (laidS w6 34 zeroC _).2)
                  have K7 := Lib.hid (K6.out.below S7)
                  have R7 := Lib.hid (R6.out.below S7)
                  have T7 := Lib.hid (T6.out.below S7)
                  have B7 := Lib.hid (B6.out.trans (S7.mono B6.out.size))
                  clear hw7 S7 B6 B5 K5 K6 R5 R6 T6
                  generalize w6.heap.size = g7 at H7 ⊢
                  have I1 := Lib.hid (infoC cc A4 cn d4)
                  have I2 := Lib.hid (infoC cc A6 cn d6)
                  have E7 := Lib.hid (CE.out w7 A4 d4 A6 d6 (CA.out R7.out) (CA.out T7.out))
                  have P7 := Lib.hid (fun w (hb : Below w7.heap.size w7 w) => CP.out w A4 d4 (CA.out (R7.out.below hb)))
                  generalize comL cc A4 cn d4 = v1 at K7 I1 E7 P7
                  generalize comL cc A6 cn d6 = v2 at H7 I2 E7
                  clear R7 T7 CE CP CA CG CR
                  go_wp2_with (first
                    | (refine wpl_guard (by rfl) ?_; refine wpl_loadS rfl 34 (.tmp 14) rfl ⟨g5, 0, none⟩ rfl v1 Tryz.isAgg34 I1.out (fun j u hu => by rw [addr_row _ rfl, Nat.zero_add]; exact K7.out.cell j u hu) ?_)
                    | (refine wpl_guard (by rfl) ?_; refine wpl_loadS rfl 34 (.tmp 16) rfl ⟨g7, 0, none⟩ rfl v2 Tryz.isAgg34 I2.out (fun j u hu => by rw [addr_row _ rfl, Nat.zero_add]; exact H7.out.cell j u hu) ?_)
                    | (go_at_call 31; refine E7.out.mono ?_; rintro e w8 ⟨rfl, hb⟩; have K8 := Lib.hid (K7.out.below hb); have D8 := Lib.hid hb; have B8 := Lib.hid (B7.out.trans (hb.mono B7.out.size)); clear hb)
                    | (refine wpl_loadS rfl 34 (.tmp 14) rfl ⟨g5, 0, none⟩ rfl v1 Tryz.isAgg34 I1.out (fun j u hu => by rw [addr_row _ rfl, Nat.zero_add]; exact K8.out.cell j u hu) ?_)
                    | (go_at_call 18; refine (P7.out _ D8.out (HG.out.below (LC.out.trans (B8.out.mono LC.out.size)))).mono ?_; rintro e w9 ⟨rfl, hb⟩; have B9 := Lib.hid (B8.out.trans (hb.mono B8.out.size)); clear hb))
                  go_roundw
                  case measure => exact meas_step3 3 j HLT.out
                  case rel => exact ⟨j + 1, HLT.out, by go_num, B9.out⟩
            · have j1 : ¬ ((j : Int) < 3) := by omega
              clear hlt hj hbj BJ HX
              as_aux_lemma =>
                go_wp2
                go_ret
                exact ⟨rfl, LJ.out⟩
end Go.Proofs.YticcianbphljpaaGreatDoor
