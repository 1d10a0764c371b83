/- CommitAll: commits as texts, and back; any texts: the law's walk. (printed by wip/genCl.py) -/
import Derived.Test.YticcianbphljpaaGreatDoorP14x
import Derived.Test.YticcianbphljpaaGreatDoorGc
import Derived.Test.YticcianbphljpaaGreatDoorP15x
import Derived.Test.YticcianbphljpaaGreatDoorP20x
import Derived.Test.YticcianbphljpaaGreatDoorP18x
import Derived.Test.YticcianbphljpaaGreatDoorBn
import Derived.Test.YticcianbphljpaaGreatDoorP10x
import Derived.Test.YticcianbphljpaaGreatDoorP5x
import Derived.Laws.Concat
namespace Go.Proofs.YticcianbphljpaaGreatDoor
open Go.RowKit
set_option maxRecDepth 20000 in
set_option maxHeartbeats 12800000 in
theorem commitAllLaw_any (W : World) (c : Com) (B : Option Addr) (m d : Nat) (h : ComAt W c B m d) (e0 : Com) (E : Option Addr) (n k : Nat) (h' : ComAt W e0 E n k) (s : ByteArray) (hG : Gl W) (hE : Ge W) :
    Calls Tryz.prog 6 #[.agg (comL c B m d).toArray, .agg (comL e0 E n k).toArray, .string s] W fun e W' => e = .returned (.bool true) ∧ Below W.heap.size W W' := by
  obtain ⟨q1, hq1⟩ : ∃ q1 : Nat, q1 = min m 6 := ⟨_, rfl⟩
  obtain ⟨q2, hq2⟩ : ∃ q2 : Nat, q2 = min n 6 := ⟨_, rfl⟩
  obtain ⟨w0, hw0⟩ : ∃ w0, w0 = (W.alloc (.cells (comL c B m d).toArray 34)).alloc (.cells (comL e0 E n k).toArray 34) := ⟨_, rfl⟩
  have l0 : Below W.heap.size W w0 := by rw [hw0]; exact ((Below.refl _ _).alloc (Nat.le_refl _) _).alloc (by rw [hsz]; omega) _
  have x0 : Blk w0 W.heap.size 34 (comL c B m d) := by rw [hw0]; exact (Blk.new W _ _).alloc _
  have y0 : Blk w0 (W.heap.size + 1) 34 (comL e0 E n k) := by
    have := Blk.new (W.alloc (.cells (comL c B m d).toArray 34)) 34 (comL e0 E n k)
    rwa [hsz, ← hw0] at this
  have cB := begun6_any w0 (hG.below l0) (hE.below l0)
  have cC := fun w (hw : Below W.heap.size W w) => comCut_any w c B m d (h.below hw) q1 hq1
  have cD := fun w (hw : Below W.heap.size W w) => comCut_any w e0 E n k (h'.below hw) q2 hq2
  have ic := infoC c B m d
  have id' := infoC e0 E n k
  obtain ⟨c1, hc1⟩ : ∃ c1 : Com, c1 = ⟨c.tree, c.ps.take q1, c.wh, c.note.take 110⟩ := ⟨_, rfl⟩
  obtain ⟨e1, he1⟩ : ∃ e1 : Com, e1 = ⟨e0.tree, e0.ps.take q2, e0.wh, e0.note.take 110⟩ := ⟨_, rfl⟩
  have h641 : c1.wh < 18446744073709551616 := by rw [hc1]; exact h.bits
  have h642 : e1.wh < 18446744073709551616 := by rw [he1]; exact h'.bits
  have hn1 : c1.note.length ≤ 1048576 := by rw [hc1]; exact Nat.le_trans (List.length_take_le _ _) (by decide)
  have hn2 : e1.note.length ≤ 1048576 := by rw [he1]; exact Nat.le_trans (List.length_take_le _ _) (by decide)
  have hps : c.ps.take q1 = c1.ps := by rw [hc1]
  have hps2 : e0.ps.take q2 = e1.ps := by rw [he1]
  rw [← hc1, hps] at cC
  rw [← he1, hps2] at cD
  obtain ⟨g1, hg1⟩ : ∃ g, g = W.heap.size := ⟨_, rfl⟩
  obtain ⟨g2, hg2⟩ : ∃ g, g = W.heap.size + 1 := ⟨_, rfl⟩
  rw [← hg1] at x0
  rw [← hg2] at y0
  have gn : g1 < w0.heap.size ∧ g2 < w0.heap.size ∧ W.heap.size ≤ g1 ∧ W.heap.size ≤ g2 := ⟨x0.lt, y0.lt, by omega, by omega⟩
  have CLZ := Lib.hid (comL_len c B m d)
  have DLZ := Lib.hid (comL_len e0 E n k)
  obtain ⟨cl, hcl⟩ : ∃ cl, cl = comL c B m d := ⟨_, rfl⟩
  obtain ⟨dl, hdl⟩ : ∃ dl, dl = comL e0 E n k := ⟨_, rfl⟩
  rw [← hcl] at hw0 x0 cC ic CLZ ⊢
  rw [← hdl] at hw0 y0 cD id' DLZ ⊢
  obtain ⟨sb, hsb⟩ : ∃ sb : ByteArray, sb = ⟨(s.data.toList.take 200).toArray⟩ := ⟨_, rfl⟩
  have cT : ∀ w, Calls Tryz.prog 17 #[.string s, .int .i64 200] w fun e w' => e = .returned (.string sb) ∧ w' = w := fun w => by rw [hsb]; exact text_cut w s 200
  have hsz : sb.size ≤ 200 := by rw [ba_size, hsb]; exact List.length_take_le _ _
  have CB := Lib.hid cB
  have CC := Lib.hid cC
  have CD := Lib.hid cD
  have CT := Lib.hid cT
  have X0 := Lib.hid x0
  have Y0 := Lib.hid y0
  have L0 := Lib.hid l0
  have IC := Lib.hid ic
  have ID := Lib.hid id'
  have HG := Lib.hid hG
  have HE := Lib.hid hE
  have GN := Lib.hid gn
  have NE : Hid (g1 ≠ g2) := Lib.hid (by omega)
  have H1 := Lib.hid h641
  have H2 := Lib.hid h642
  have N1 := Lib.hid hn1
  have N2 := Lib.hid hn2
  have SZ := Lib.hid hsz
  have Q1 : Hid (q1 ≤ 6) := Lib.hid (by omega)
  have Q2 : Hid (q2 ≤ 6) := Lib.hid (by omega)
  clear cB cC cD cT x0 y0 l0 ic id' hG hE gn h641 h642 hn1 hn2 hps hps2 hc1 he1 hcl hdl hsb hsz hq1 hq2 h h'
  go_enter Tryz.func6, Tryz.ntmps6
  go_upto_region 1 with fail
  change Code.wp _ _ _ _ ((W.alloc (.cells cl.toArray 34)).alloc (.cells dl.toArray 34))
  rw [← hw0, ← hg2, ← hg1]
  clear hw0 hg1 hg2
  go_upto_region 4 with (go_at_call 13; refine CB.out.mono ?_; rintro e w1 ⟨rfl, hb⟩; have B1 := Lib.hid hb; clear hb)
  clear CB
  go_cut [2] (fun v wx => v = .string sb ∧ TwoC W w0.heap.size g1 g2 c1 e1 q1 q2 wx)
  case first =>
    refine wp_region_any (by kernel_rfl) ?_
    change wpAny _ _ _ _ _ _ _ (World.drew _)
    have D1 : Hid (Below w0.heap.size w0 w1.drew) := Lib.hid B1.out.drew
    have X1 : Hid (Blk w1.drew g1 34 cl) := Lib.hid (X0.out.below D1.out)
    have Y1 : Hid (Blk w1.drew g2 34 dl) := Lib.hid (Y0.out.below D1.out)
    generalize World.drew w1 = v0 at D1 X1 Y1 ⊢
    clear X0 Y0 B1
    refine wpAny_bare [4] 8 (by rfl) (by kernel_rfl) (fun _ _ _ d _ h => by cases d <;> exact h) ?_
    simp only [bareO, List.filterMap_cons, List.filterMap_nil, List.getElem?_toArray, List.getElem?_cons_succ, List.getElem?_cons_zero]
    repeat (first | quiet_step (fail) | go_big_quiet_step (fail))
    refine wpQuiet_nil ?_
    refine wpAny_ready (rs := [0, 2]) (by kernel_rfl) (by simp) ?_
    refine (AllReady.cons rfl (fun K hK => ?_) (AllReady.cons rfl (fun K hK => ?_) AllReady.nil))
    · skip
      refine step_loadI (by rfl) 34 (.tmp 3) rfl ⟨g1, 0, none⟩ rfl cl (Tryz.isAgg34 _) IC.out (fun j u hu => by rw [addr_row _ rfl, Nat.zero_add]; exact X1.out.cell j u hu) ?_
      refine hK _ _ ?_
      clear hK K
      refine wpAny_ready (rs := [1, 2]) (by kernel_rfl) (by simp) ?_
      refine (AllReady.cons rfl (fun K hK => ?_) (AllReady.cons rfl (fun K hK => ?_) AllReady.nil))
      · skip
        refine step_callH (by rfl) 16 #[.agg cl.toArray] (by first | rfl | (simp [execOp, go_sem]; done) | (unfold execOp; go_simp; done) | (unfold execOp; simp; rfl)) (fun v w' => ∃ B d, v = .agg (comL c1 B q1 d).toArray ∧ RowQ w' w0.heap.size 25 32 (.slice B q1 d) q1 (rowI c1.ps) ∧ Below w0.heap.size w0 w' ∧ Below v0.heap.size v0 w') ((CC.out _ (L0.out.trans (D1.out.mono L0.out.size))).mono fun e w' ⟨B, d, he, hr, hb⟩ => ⟨_, he, B, d, rfl, hr.mono D1.out.size, D1.out.trans (hb.mono D1.out.size), hb⟩) ?_
        rintro _ w2 ⟨B2, d2, rfl, hr, hb, hv⟩
        have R2 := Lib.hid hr
        have D2 := Lib.hid hb
        have X2 := Lib.hid (X1.out.below hv)
        have Y2 := Lib.hid (Y1.out.below hv)
        clear hr hb hv
        refine hK _ _ ?_
        clear hK K
        go_simp
        refine wpAny_ready (rs := [2]) (by kernel_rfl) (by simp) ?_
        refine (AllReady.cons rfl (fun K hK => ?_) AllReady.nil)
        refine step_loadI (by rfl) 34 (.tmp 4) rfl ⟨g2, 0, none⟩ rfl dl (Tryz.isAgg34 _) ID.out (fun j u hu => by rw [addr_row _ rfl, Nat.zero_add]; exact Y2.out.cell j u hu) ?_
        refine hK _ _ ?_
        clear hK K
        refine wpAny_ready (rs := [3]) (by kernel_rfl) (by simp) ?_
        refine (AllReady.cons rfl (fun K hK => ?_) AllReady.nil)
        refine step_callH (by rfl) 16 #[.agg dl.toArray] (by first | rfl | (simp [execOp, go_sem]; done) | (unfold execOp; go_simp; done) | (unfold execOp; simp; rfl)) (fun v w' => ∃ B d, v = .agg (comL e1 B q2 d).toArray ∧ RowQ w' w0.heap.size 25 32 (.slice B q2 d) q2 (rowI e1.ps) ∧ Below w0.heap.size w0 w' ∧ Below w2.heap.size w2 w') ((CD.out _ (L0.out.trans (D2.out.mono L0.out.size))).mono fun e w' ⟨B, d, he, hr, hb⟩ => ⟨_, he, B, d, rfl, hr.mono D2.out.size, D2.out.trans (hb.mono D2.out.size), hb⟩) ?_
        rintro _ w3 ⟨B3, d3, rfl, hr, hb, hv⟩
        have R3 := Lib.hid hr
        have Q3 := Lib.hid (R2.out.below hv)
        have D3 := Lib.hid hb
        have X3 := Lib.hid (X2.out.below hv)
        have Y3 := Lib.hid (Y2.out.below hv)
        clear hr hb hv
        refine hK _ _ ?_
        clear hK K
        go_simp
        refine wpAny_ready (rs := [5]) (by kernel_rfl) (by simp) ?_
        refine (AllReady.cons rfl (fun K hK => ?_) AllReady.nil)
        refine step_callH (by rfl) 17 #[.string s, .int .i64 200] (by first | rfl | (simp [execOp, go_sem]; done) | (unfold execOp; go_simp; done) | (unfold execOp; simp; rfl)) (fun v w' => v = .string sb ∧ w' = w3) ((CT.out _).mono fun e w' ⟨he, hw⟩ => ⟨_, he, rfl, hw⟩) ?_
        rintro _ _ ⟨rfl, rfl⟩
        refine hK _ _ ?_
        clear hK K
        go_simp
        refine wpAny_ready (rs := [6]) (by kernel_rfl) (by simp) ?_
        refine (AllReady.cons rfl (fun K hK => ?_) AllReady.nil)
        refine step_storeS (by rfl) 34 (.tmp 3) (.tmp 21) rfl g1 (comL c1 B2 q1 d2) rfl rfl 34 cl X3.out (infoC _ _ _ _) (by rw [CLZ.out, comL_len]) (comL_one _ _ _ _) ?_
        refine hK _ _ ?_
        clear hK K
        go_simp
        refine wpAny_ready (rs := [7]) (by kernel_rfl) (by simp) ?_
        refine (AllReady.cons rfl (fun K hK => ?_) AllReady.nil)
        refine step_storeS (by rfl) 34 (.tmp 4) (.tmp 23) rfl g2 (comL e1 B3 q2 d3) rfl rfl 34 dl (Y3.out.rowFar NE.out.symm _) (infoC _ _ _ _) (by rw [DLZ.out, comL_len]) (comL_one _ _ _ _) ?_
        refine hK _ _ ?_
        clear hK K
        go_simp
        refine wpAny_ready (rs := [8]) (by kernel_rfl) (by simp) ?_
        refine (AllReady.cons rfl (fun K hK => ?_) AllReady.nil)
        go_simp
        refine hK _ _ ?_
        clear hK K
        refine wpAny_done (by kernel_rfl) ?_ _
        go_wp2
        go_meet
        exact ⟨rfl, TwoC.laid X3.out Y3.out Q3.out R3.out (L0.out.trans (D3.out.mono L0.out.size)) NE.out GN.out.1 GN.out.2.1 GN.out.2.2.1 GN.out.2.2.2⟩
      · skip
        refine step_loadI (by rfl) 34 (.tmp 4) rfl ⟨g2, 0, none⟩ rfl dl (Tryz.isAgg34 _) ID.out (fun j u hu => by rw [addr_row _ rfl, Nat.zero_add]; exact Y1.out.cell j u hu) ?_
        refine hK _ _ ?_
        clear hK K
        refine wpAny_ready (rs := [1]) (by kernel_rfl) (by simp) ?_
        refine (AllReady.cons rfl (fun K hK => ?_) AllReady.nil)
        refine step_callH (by rfl) 16 #[.agg cl.toArray] (by first | rfl | (simp [execOp, go_sem]; done) | (unfold execOp; go_simp; done) | (unfold execOp; simp; rfl)) (fun v w' => ∃ B d, v = .agg (comL c1 B q1 d).toArray ∧ RowQ w' w0.heap.size 25 32 (.slice B q1 d) q1 (rowI c1.ps) ∧ Below w0.heap.size w0 w' ∧ Below v0.heap.size v0 w') ((CC.out _ (L0.out.trans (D1.out.mono L0.out.size))).mono fun e w' ⟨B, d, he, hr, hb⟩ => ⟨_, he, B, d, rfl, hr.mono D1.out.size, D1.out.trans (hb.mono D1.out.size), hb⟩) ?_
        rintro _ w2 ⟨B2, d2, rfl, hr, hb, hv⟩
        have R2 := Lib.hid hr
        have D2 := Lib.hid hb
        have X2 := Lib.hid (X1.out.below hv)
        have Y2 := Lib.hid (Y1.out.below hv)
        clear hr hb hv
        refine hK _ _ ?_
        clear hK K
        go_simp
        refine wpAny_ready (rs := [3]) (by kernel_rfl) (by simp) ?_
        refine (AllReady.cons rfl (fun K hK => ?_) AllReady.nil)
        refine step_callH (by rfl) 16 #[.agg dl.toArray] (by first | rfl | (simp [execOp, go_sem]; done) | (unfold execOp; go_simp; done) | (unfold execOp; simp; rfl)) (fun v w' => ∃ B d, v = .agg (comL e1 B q2 d).toArray ∧ RowQ w' w0.heap.size 25 32 (.slice B q2 d) q2 (rowI e1.ps) ∧ Below w0.heap.size w0 w' ∧ Below w2.heap.size w2 w') ((CD.out _ (L0.out.trans (D2.out.mono L0.out.size))).mono fun e w' ⟨B, d, he, hr, hb⟩ => ⟨_, he, B, d, rfl, hr.mono D2.out.size, D2.out.trans (hb.mono D2.out.size), hb⟩) ?_
        rintro _ w3 ⟨B3, d3, rfl, hr, hb, hv⟩
        have R3 := Lib.hid hr
        have Q3 := Lib.hid (R2.out.below hv)
        have D3 := Lib.hid hb
        have X3 := Lib.hid (X2.out.below hv)
        have Y3 := Lib.hid (Y2.out.below hv)
        clear hr hb hv
        refine hK _ _ ?_
        clear hK K
        go_simp
        refine wpAny_ready (rs := [5]) (by kernel_rfl) (by simp) ?_
        refine (AllReady.cons rfl (fun K hK => ?_) AllReady.nil)
        refine step_callH (by rfl) 17 #[.string s, .int .i64 200] (by first | rfl | (simp [execOp, go_sem]; done) | (unfold execOp; go_simp; done) | (unfold execOp; simp; rfl)) (fun v w' => v = .string sb ∧ w' = w3) ((CT.out _).mono fun e w' ⟨he, hw⟩ => ⟨_, he, rfl, hw⟩) ?_
        rintro _ _ ⟨rfl, rfl⟩
        refine hK _ _ ?_
        clear hK K
        go_simp
        refine wpAny_ready (rs := [6]) (by kernel_rfl) (by simp) ?_
        refine (AllReady.cons rfl (fun K hK => ?_) AllReady.nil)
        refine step_storeS (by rfl) 34 (.tmp 3) (.tmp 21) rfl g1 (comL c1 B2 q1 d2) rfl rfl 34 cl X3.out (infoC _ _ _ _) (by rw [CLZ.out, comL_len]) (comL_one _ _ _ _) ?_
        refine hK _ _ ?_
        clear hK K
        go_simp
        refine wpAny_ready (rs := [7]) (by kernel_rfl) (by simp) ?_
        refine (AllReady.cons rfl (fun K hK => ?_) AllReady.nil)
        refine step_storeS (by rfl) 34 (.tmp 4) (.tmp 23) rfl g2 (comL e1 B3 q2 d3) rfl rfl 34 dl (Y3.out.rowFar NE.out.symm _) (infoC _ _ _ _) (by rw [DLZ.out, comL_len]) (comL_one _ _ _ _) ?_
        refine hK _ _ ?_
        clear hK K
        go_simp
        refine wpAny_ready (rs := [8]) (by kernel_rfl) (by simp) ?_
        refine (AllReady.cons rfl (fun K hK => ?_) AllReady.nil)
        go_simp
        refine hK _ _ ?_
        clear hK K
        refine wpAny_done (by kernel_rfl) ?_ _
        go_wp2
        go_meet
        exact ⟨rfl, TwoC.laid X3.out Y3.out Q3.out R3.out (L0.out.trans (D3.out.mono L0.out.size)) NE.out GN.out.1 GN.out.2.1 GN.out.2.2.1 GN.out.2.2.2⟩
    · skip
      refine step_loadI (by rfl) 34 (.tmp 4) rfl ⟨g2, 0, none⟩ rfl dl (Tryz.isAgg34 _) ID.out (fun j u hu => by rw [addr_row _ rfl, Nat.zero_add]; exact Y1.out.cell j u hu) ?_
      refine hK _ _ ?_
      clear hK K
      refine wpAny_ready (rs := [0]) (by kernel_rfl) (by simp) ?_
      refine (AllReady.cons rfl (fun K hK => ?_) AllReady.nil)
      refine step_loadI (by rfl) 34 (.tmp 3) rfl ⟨g1, 0, none⟩ rfl cl (Tryz.isAgg34 _) IC.out (fun j u hu => by rw [addr_row _ rfl, Nat.zero_add]; exact X1.out.cell j u hu) ?_
      refine hK _ _ ?_
      clear hK K
      refine wpAny_ready (rs := [1]) (by kernel_rfl) (by simp) ?_
      refine (AllReady.cons rfl (fun K hK => ?_) AllReady.nil)
      refine step_callH (by rfl) 16 #[.agg cl.toArray] (by first | rfl | (simp [execOp, go_sem]; done) | (unfold execOp; go_simp; done) | (unfold execOp; simp; rfl)) (fun v w' => ∃ B d, v = .agg (comL c1 B q1 d).toArray ∧ RowQ w' w0.heap.size 25 32 (.slice B q1 d) q1 (rowI c1.ps) ∧ Below w0.heap.size w0 w' ∧ Below v0.heap.size v0 w') ((CC.out _ (L0.out.trans (D1.out.mono L0.out.size))).mono fun e w' ⟨B, d, he, hr, hb⟩ => ⟨_, he, B, d, rfl, hr.mono D1.out.size, D1.out.trans (hb.mono D1.out.size), hb⟩) ?_
      rintro _ w2 ⟨B2, d2, rfl, hr, hb, hv⟩
      have R2 := Lib.hid hr
      have D2 := Lib.hid hb
      have X2 := Lib.hid (X1.out.below hv)
      have Y2 := Lib.hid (Y1.out.below hv)
      clear hr hb hv
      refine hK _ _ ?_
      clear hK K
      go_simp
      refine wpAny_ready (rs := [3]) (by kernel_rfl) (by simp) ?_
      refine (AllReady.cons rfl (fun K hK => ?_) AllReady.nil)
      refine step_callH (by rfl) 16 #[.agg dl.toArray] (by first | rfl | (simp [execOp, go_sem]; done) | (unfold execOp; go_simp; done) | (unfold execOp; simp; rfl)) (fun v w' => ∃ B d, v = .agg (comL e1 B q2 d).toArray ∧ RowQ w' w0.heap.size 25 32 (.slice B q2 d) q2 (rowI e1.ps) ∧ Below w0.heap.size w0 w' ∧ Below w2.heap.size w2 w') ((CD.out _ (L0.out.trans (D2.out.mono L0.out.size))).mono fun e w' ⟨B, d, he, hr, hb⟩ => ⟨_, he, B, d, rfl, hr.mono D2.out.size, D2.out.trans (hb.mono D2.out.size), hb⟩) ?_
      rintro _ w3 ⟨B3, d3, rfl, hr, hb, hv⟩
      have R3 := Lib.hid hr
      have Q3 := Lib.hid (R2.out.below hv)
      have D3 := Lib.hid hb
      have X3 := Lib.hid (X2.out.below hv)
      have Y3 := Lib.hid (Y2.out.below hv)
      clear hr hb hv
      refine hK _ _ ?_
      clear hK K
      go_simp
      refine wpAny_ready (rs := [5]) (by kernel_rfl) (by simp) ?_
      refine (AllReady.cons rfl (fun K hK => ?_) AllReady.nil)
      refine step_callH (by rfl) 17 #[.string s, .int .i64 200] (by first | rfl | (simp [execOp, go_sem]; done) | (unfold execOp; go_simp; done) | (unfold execOp; simp; rfl)) (fun v w' => v = .string sb ∧ w' = w3) ((CT.out _).mono fun e w' ⟨he, hw⟩ => ⟨_, he, rfl, hw⟩) ?_
      rintro _ _ ⟨rfl, rfl⟩
      refine hK _ _ ?_
      clear hK K
      go_simp
      refine wpAny_ready (rs := [6]) (by kernel_rfl) (by simp) ?_
      refine (AllReady.cons rfl (fun K hK => ?_) AllReady.nil)
      refine step_storeS (by rfl) 34 (.tmp 3) (.tmp 21) rfl g1 (comL c1 B2 q1 d2) rfl rfl 34 cl X3.out (infoC _ _ _ _) (by rw [CLZ.out, comL_len]) (comL_one _ _ _ _) ?_
      refine hK _ _ ?_
      clear hK K
      go_simp
      refine wpAny_ready (rs := [7]) (by kernel_rfl) (by simp) ?_
      refine (AllReady.cons rfl (fun K hK => ?_) AllReady.nil)
      refine step_storeS (by rfl) 34 (.tmp 4) (.tmp 23) rfl g2 (comL e1 B3 q2 d3) rfl rfl 34 dl (Y3.out.rowFar NE.out.symm _) (infoC _ _ _ _) (by rw [DLZ.out, comL_len]) (comL_one _ _ _ _) ?_
      refine hK _ _ ?_
      clear hK K
      go_simp
      refine wpAny_ready (rs := [8]) (by kernel_rfl) (by simp) ?_
      refine (AllReady.cons rfl (fun K hK => ?_) AllReady.nil)
      go_simp
      refine hK _ _ ?_
      clear hK K
      refine wpAny_done (by kernel_rfl) ?_ _
      go_wp2
      go_meet
      exact ⟨rfl, TwoC.laid X3.out Y3.out Q3.out R3.out (L0.out.trans (D3.out.mono L0.out.size)) NE.out GN.out.1 GN.out.2.1 GN.out.2.2.1 GN.out.2.2.2⟩
  case rest =>
    obtain ⟨rfl, hT⟩ := hcut
    obtain ⟨⟨B2, d2, B3, d3, hx, hy, hr, ht⟩, hl⟩ := hT
    have XC := Lib.hid hx
    have YC := Lib.hid hy
    have RC := Lib.hid hr
    have TC := Lib.hid ht
    have LC := Lib.hid hl
    clear hx hy hr ht hl CC CD CT X0 Y0 L0 IC ID B1 CLZ DLZ NE GN
    have ca := fun w (hw : Below wc.heap.size wc w) => comAt_row (RC.out.below hw) H1.out N1.out
    have ce := fun w (hw : Below wc.heap.size wc w) => comAt_row (TC.out.below hw) H2.out N2.out
    have cP := fun w (hw : Below wc.heap.size wc w) => commitPut_any w c1 B2 q1 d2 (ca w hw) (by have := Q1.out; omega) (HG.out.below (LC.out.trans (hw.mono LC.out.size)))
    have cM := fun w (hw : Below wc.heap.size wc w) => rmayC_any w c1 B2 q1 d2 (ca w hw) (by have := Q1.out; omega)
    have cN := fun w (hw : Below wc.heap.size wc w) => commitMay_any w c1 B2 q1 d2 (ca w hw) (by have := Q1.out; omega)
    have cE := fun w (hw : Below wc.heap.size wc w) => commitEq_any w c1 e1 B2 q1 d2 B3 q2 d3 (ca w hw) (ce w hw) (by have := Q1.out; omega) (by have := Q2.out; omega)
    have cF := fun w (hw : Below wc.heap.size wc w) => reqC_any w c1 e1 B2 q1 d2 B3 q2 d3 (ca w hw) (ce w hw) (by have := Q1.out; omega) (by have := Q2.out; omega)
    have cR := fun (hm : mayC c1 = true) w (hw : Below wc.heap.size wc w) => rcommit_any w c1 B2 q1 d2 (ca w hw) hm
    have hlen := fun hm => commitB_len c1 H1.out hm
    unfold putCV at cP
    generalize eqC c1 e1 = ev at cE cF
    obtain ⟨mc, hmc⟩ : ∃ mc, mc = mayC c1 := ⟨_, rfl⟩
    rw [← hmc] at cP cM cN cR hlen
    obtain ⟨ab, hab⟩ : ∃ ab : ByteArray, ab = ⟨(bif mc then commitB c1 else []).toArray⟩ := ⟨_, rfl⟩
    rw [← hab] at cP
    have haz : ab.size ≤ 700 := by
      rw [ba_size, hab]
      show (bif mc then commitB c1 else []).length ≤ 700
      cases mc with
      | false => simp
      | true => exact hlen rfl
    have hae : mc = false → ab = ⟨#[]⟩ := fun h => by rw [hab, h]; rfl
    have cR2 : mc = true → ∀ w, Below wc.heap.size wc w → Calls Tryz.prog 29 #[.agg (comL c1 B2 q1 d2).toArray] w fun e w' => e = .returned (.string ab) ∧ Below w.heap.size w w' := fun h w hw => by rw [hab, h]; exact cR h w hw
    have I1 := Lib.hid (infoC c1 B2 q1 d2)
    have I2 := Lib.hid (infoC e1 B3 q2 d3)
    generalize comL c1 B2 q1 d2 = v1 at XC I1 cP cM cN cE cF cR2
    generalize comL e1 B3 q2 d3 = v2 at YC I2 cE cF
    have CP := Lib.hid cP
    have CM := Lib.hid cM
    have CN := Lib.hid cN
    have CE := Lib.hid cE
    have CF := Lib.hid cF
    have CR := Lib.hid cR2
    have AZ := Lib.hid haz
    have HAE := Lib.hid hae
    clear ca ce cP cM cN cE cF cR cR2 hlen hmc hab haz hae RC TC H1 H2 N1 N2 Q1 Q2
    go_upto_region 7 with (first
      | (refine wpl_loadS rfl 34 (.tmp 3) rfl ⟨g1, 0, none⟩ rfl v1 Tryz.isAgg34 I1.out (fun j u hu => by rw [addr_row _ rfl, Nat.zero_add]; exact XC.out.cell j u hu) ?_)
      | (go_at_call 18; refine (CP.out _ (Below.refl _ _)).mono ?_; rintro e w3 ⟨rfl, hb⟩; have B3' := Lib.hid hb; have X3 := Lib.hid (XC.out.below hb); clear hb)
      | (refine wpl_loadS rfl 34 (.tmp 3) rfl ⟨g1, 0, none⟩ rfl v1 Tryz.isAgg34 I1.out (fun j u hu => by rw [addr_row _ rfl, Nat.zero_add]; exact X3.out.cell j u hu) ?_)
      | (go_at_call 27; refine (CM.out _ B3'.out).mono ?_; rintro e w4 ⟨rfl, hb⟩; have B4 := Lib.hid (B3'.out.trans (hb.mono B3'.out.size)); clear hb))
    clear CP CM X3 B3'
    go_cut [67] (fun v wx => v = .bool false ∧ Below wc.heap.size wc wx)
    case first =>
      have hemp := ext_nonempty w4
      have LD1 : Hid (∀ w', (∃ s : Ext w4, w' = s.at_) → ∀ j u, v1[j]? = some u → w'.cell? ((⟨g1, 0, none⟩ : Addr).add j) = some u) := Lib.hid fun w' ⟨s, hw⟩ j u hu => by
        rw [hw, addr_row _ rfl, Nat.zero_add]
        exact (XC.out.below (B4.out.trans (s.below.mono B4.out.size))).cell j u hu
      have LD2 : Hid (∀ w', (∃ s : Ext w4, w' = s.at_) → ∀ j u, v2[j]? = some u → w'.cell? ((⟨g2, 0, none⟩ : Addr).add j) = some u) := Lib.hid fun w' ⟨s, hw⟩ j u hu => by
        rw [hw, addr_row _ rfl, Nat.zero_add]
        exact (YC.out.below (B4.out.trans (s.below.mono B4.out.size))).cell j u hu
      have CN2 : Hid (∀ s : Ext w4, Calls Tryz.prog 28 #[.agg v1.toArray] s.at_ fun e w' => e = .returned (.bool mc) ∧ Below s.at_.heap.size s.at_ w') := Lib.hid fun s => CN.out _ (B4.out.trans (s.below.mono B4.out.size))
      have CE2 : Hid (∀ s : Ext w4, Calls Tryz.prog 30 #[.agg v1.toArray, .agg v2.toArray] s.at_ fun e w' => e = .returned (.bool ev) ∧ Below s.at_.heap.size s.at_ w') := Lib.hid fun s => CE.out _ (B4.out.trans (s.below.mono B4.out.size))
      have CF2 : Hid (∀ s : Ext w4, Calls Tryz.prog 31 #[.agg v1.toArray, .agg v2.toArray] s.at_ fun e w' => e = .returned (.bool ev) ∧ Below s.at_.heap.size s.at_ w') := Lib.hid fun s => CF.out _ (B4.out.trans (s.below.mono B4.out.size))
      have CR2 : Hid (mc = true → ∀ s : Ext w4, Calls Tryz.prog 29 #[.agg v1.toArray] s.at_ fun e w' => e = .returned (.string ab) ∧ Below s.at_.heap.size s.at_ w') := Lib.hid fun h s => CR.out h _ (B4.out.trans (s.below.mono B4.out.size))
      have hev : (ev != ev) = false := bne_self_eq_false ev
      clear CN CE CF CR XC YC
      cases mc
      · have ae := HAE.out rfl
        subst ae
        clear HAE CR2
        refine wp_region_ext (by kernel_rfl) (by kernel_rfl) ?_
        repeat (first
          | (refine wpQuiet_loadS (by rfl) 34 (.tmp 3) rfl ⟨g1, 0, none⟩ rfl v1 Tryz.isAgg34 I1.out LD1.out ?_)
          | (refine wpQuiet_loadS (by rfl) 34 (.tmp 4) rfl ⟨g2, 0, none⟩ rfl v2 Tryz.isAgg34 I2.out LD2.out ?_)
          | quiet_step ((first | (go_at_call 28; exact Ext.call (CN2.out _)) | (go_at_call 30; exact Ext.call (CE2.out _)) | (go_at_call 31; exact Ext.call (CF2.out _))))
          | go_big_quiet_step ((first | (go_at_call 28; exact Ext.call (CN2.out _)) | (go_at_call 30; exact Ext.call (CE2.out _)) | (go_at_call 31; exact Ext.call (CF2.out _)))))
        refine wpQuiet_nil ?_
        rintro _ ⟨s9, rfl⟩
        go_wp2
        go_meet
        exact ⟨by first | rfl | simp, B4.out.trans (s9.below.mono B4.out.size)⟩
      · have CR3 := Lib.hid (CR2.out rfl)
        have hab2 : (ab.toList != ab.toList) = false := bne_self_eq_false _
        have hab3 : (ab.toList == ab.toList) = true := beq_self_eq_true _
        clear HAE CR2
        refine wp_region_ext (by kernel_rfl) (by kernel_rfl) ?_
        repeat (first
          | (refine wpQuiet_loadS (by rfl) 34 (.tmp 3) rfl ⟨g1, 0, none⟩ rfl v1 Tryz.isAgg34 I1.out LD1.out ?_)
          | (refine wpQuiet_loadS (by rfl) 34 (.tmp 4) rfl ⟨g2, 0, none⟩ rfl v2 Tryz.isAgg34 I2.out LD2.out ?_)
          | quiet_step ((first | (go_at_call 28; exact Ext.call (CN2.out _)) | (go_at_call 29; exact Ext.call (CR3.out _)) | (go_at_call 30; exact Ext.call (CE2.out _)) | (go_at_call 31; exact Ext.call (CF2.out _))))
          | go_big_quiet_step ((first | (go_at_call 28; exact Ext.call (CN2.out _)) | (go_at_call 29; exact Ext.call (CR3.out _)) | (go_at_call 30; exact Ext.call (CE2.out _)) | (go_at_call 31; exact Ext.call (CF2.out _)))))
        refine wpQuiet_nil ?_
        rintro _ ⟨s9, rfl⟩
        go_wp2
        go_meet
        exact ⟨by first | rfl | simp, B4.out.trans (s9.below.mono B4.out.size)⟩
    case rest =>
      obtain ⟨rfl, hb⟩ := hcut
      have BC := Lib.hid (LC.out.trans (hb.mono LC.out.size))
      clear hb B4 CN CE CF CR HAE XC YC I1 I2
      obtain ⟨hh, hhh⟩ : ∃ hh, hh = ab.size / 2 := ⟨_, rfl⟩
      have az := AZ.out
      have sz := SZ.out
      have hd1 : ((ab.size : Int) / 2) = (hh : Int) := by omega
      have hd2 : (hh : Int) ≤ (ab.size : Int) := by omega
      have hd3 : wrap64 (hh : Int) = (hh : Int) := by unfold wrap64; omega
      obtain ⟨hb, hhb⟩ : ∃ hb : ByteArray, ab.extract 0 hh = hb := ⟨_, rfl⟩
      have hhz : hb.size ≤ 1100 := by rw [← hhb, ByteArray.size_extract]; omega
      have hcz : (ab ++ sb).size ≤ 1100 := by rw [ByteArray.size_append]; omega
      obtain ⟨w3, hw3⟩ : ∃ w3, w3 = wc.alloc (.cells #[.string ab, .string sb, .string hb, .string (ab ++ sb)] 9) := ⟨_, rfl⟩
      have hl3 : Below wc.heap.size wc w3 := by rw [hw3]; exact (Below.refl _ _).alloc (Nat.le_refl _) _
      obtain ⟨g, hg⟩ : ∃ g, g = wc.heap.size := ⟨_, rfl⟩
      have hk3 : Blk w3 g 9 [.string ab, .string sb, .string hb, .string (ab ++ sb)] := by rw [hw3, hg]; exact Blk.new wc _ _
      have hx : ∀ w, Below w3.heap.size w3 w → ∀ j : Nat, j < 4 → ∃ x : ByteArray, w.cell? ⟨g, j, none⟩ = some (.string x) ∧ x.size ≤ 1100 := fun w hw j hj => by
        have hk := hk3.below hw
        rcases j with _ | _ | _ | _ | j
        · exact ⟨ab, hk.cell 0 _ rfl, by omega⟩
        · exact ⟨sb, hk.cell 1 _ rfl, by omega⟩
        · exact ⟨hb, hk.cell 2 _ rfl, hhz⟩
        · exact ⟨_, hk.cell 3 _ rfl, hcz⟩
        · omega
      have HX := Lib.hid hx
      have L3 := Lib.hid (BC.out.trans (hl3.mono BC.out.size))
      clear hhh hhz hcz hl3 hk3 hx
      go_upto_region 10 with fail
      change Code.wp _ _ _ _ (wc.alloc (.cells #[.string ab, .string sb, .string hb, .string (ab ++ sb)] 9))
      rw [← hw3, ← hg]
      clear hw3 hg hd1 hd2 hd3 hhb AZ SZ az sz
      as_aux_lemma =>
        go_loopw [80] (fun i wx => ∃ j : Nat, j ≤ 4 ∧ i = .int .i64 j ∧ Below w3.heap.size w3 wx) (fun i _ => 4 - (intOf i).toNat)
        case atStart => exact ⟨0, Nat.zero_le _, rfl, Below.refl _ _⟩
        case round =>
          obtain ⟨j, hj, rfl, hbj⟩ := hrel
          have BJ := Lib.hid hbj
          have LJ := Lib.hid (L3.out.trans (hbj.mono L3.out.size))
          have HGJ := Lib.hid (HG.out.below LJ.out)
          have HEJ := Lib.hid (HE.out.below LJ.out)
          by_cases hlt : j < 4
          · have j1 : (j : Int) < 4 := by omega
            obtain ⟨y, hcell, hyz⟩ := HX.out _ BJ.out j hlt
            have HLT := Lib.hid hlt
            have cG := fun w hw hv => commitGet_any w y y.data.toList rfl (by omega) hw hv
            have cR := fun w => rgetCommit_any w y y.data.toList rfl (by omega)
            unfold GetCPost at cG
            unfold RGetCPost at cR
            cases hgt : getC y.data.toList with
            | none =>
              rw [hgt] at cG cR
              simp only at cG cR
              have cE := fun w => reqC_any w noCom noCom none 0 0 none 0 0 (noComAt w) (noComAt w) (by decide) (by decide)
              rw [eqC_self] at cE
              have hzc : comL noCom none 0 0 = zeroC := rfl
              rw [hzc] at cE
              have CG := Lib.hid cG
              have CR := Lib.hid cR
              have CE := Lib.hid cE
              have IZ := Lib.hid infoZC
              have OZ : Hid (∀ v ∈ zeroC, v.oneCell' = true) := Lib.hid (comL_one _ _ _ _)
              clear cG cR cE hzc hgt hyz hlt hj hbj
              as_aux_lemma =>
                go_upto_region 13 with (first
                  | (go_at_call 21; refine (CG.out _ HGJ.out HEJ.out).mono ?_; rintro e w4 ⟨rfl, hb⟩; have B4 := Lib.hid (BJ.out.trans (hb.mono BJ.out.size)); clear hb)
                  | (refine wpl_storeS rfl 34 (.tmp 13) _ rfl w4.heap.size zeroC rfl rfl 34 zeroC (Blk.new w4 _ _) IZ.out rfl OZ.out ?_))
                generalize hw5 : World.setRow _ _ _ = w5
                have S5 : Below w4.heap.size w4 w5 := by rw [← hw5]; exact (laidS w4 34 zeroC _).1
                have K5 : Hid (Blk w5 w4.heap.size 34 zeroC) := Lib.hid (by rw [← hw5]; exact (laidS w4 34 zeroC _).2)
                have B5 := Lib.hid (B4.out.trans (S5.mono B4.out.size))
                clear hw5 S5 B4
                generalize w4.heap.size = g5 at K5 ⊢
                go_upto_region 14 with (first
                  | (go_at_call 32; refine (CR.out _).mono ?_; rintro e w6 ⟨rfl, hb⟩; have K6 := Lib.hid (K5.out.below hb); have B6 := Lib.hid (B5.out.trans (hb.mono B5.out.size)); clear hb)
                  | (refine wpl_storeS rfl 34 (.tmp 15) _ rfl w6.heap.size zeroC rfl rfl 34 zeroC (Blk.new w6 _ _) IZ.out rfl OZ.out ?_))
                generalize hw7 : World.setRow _ _ _ = w7
                have S7 : Below w6.heap.size w6 w7 := by rw [← hw7]; exact (laidS w6 34 zeroC _).1
                have H7 : Hid (Blk w7 w6.heap.size 34 zeroC) := Lib.hid (by rw [← hw7]; exact (laidS w6 34 zeroC _).2)
                have K7 := Lib.hid (K6.out.below S7)
                have B7 := Lib.hid (B6.out.trans (S7.mono B6.out.size))
                clear hw7 S7 B6 B5 K5 K6
                generalize w6.heap.size = g7 at H7 ⊢
                go_wp2_with (first
                  | (refine wpl_guard (by rfl) ?_; refine wpl_loadS rfl 34 (.tmp 13) rfl ⟨g5, 0, none⟩ rfl zeroC Tryz.isAgg34 IZ.out (fun j u hu => by rw [addr_row _ rfl, Nat.zero_add]; exact K7.out.cell j u hu) ?_)
                  | (refine wpl_guard (by rfl) ?_; refine wpl_loadS rfl 34 (.tmp 15) rfl ⟨g7, 0, none⟩ rfl zeroC Tryz.isAgg34 IZ.out (fun j u hu => by rw [addr_row _ rfl, Nat.zero_add]; exact H7.out.cell j u hu) ?_)
                  | (go_at_call 31; refine (CE.out _).mono ?_; rintro e w8 ⟨rfl, hb⟩; have B8 := Lib.hid (B7.out.trans (hb.mono B7.out.size)); clear hb))
                go_roundw
                case measure => exact meas_step3 4 j HLT.out
                case rel => exact ⟨j + 1, HLT.out, by go_num, B8.out⟩
            | some cc =>
              rw [hgt] at cG cR
              simp only at cG cR
              obtain ⟨h64, hmy, _⟩ := getC_iff.1 hgt
              obtain ⟨hp4, hn4⟩ := mayC_fit hmy
              obtain ⟨cn, hcn⟩ : ∃ cn, cn = cc.ps.length := ⟨_, rfl⟩
              rw [← hcn] at cG cR hp4
              have cE := fun w A d A' d' (h1 : ComAt w cc A cn d) (h2 : ComAt w cc A' cn d') => reqC_any w cc cc A cn d A' cn d' h1 h2 (by omega) (by omega)
              rw [eqC_self] at cE
              have CG := Lib.hid cG
              have CR := Lib.hid cR
              have CE := Lib.hid cE
              have CA : Hid (∀ {w : World} {B : Nat} {A : Option Addr} {d : Nat}, RowQ w B 25 32 (.slice A cn d) cn (rowI cc.ps) → ComAt w cc A cn d) := Lib.hid (fun hr => comAt_row hr h64 (by omega))
              clear cG cR cE hgt hyz hlt hj hbj hp4 hn4 hcn h64 hmy
              as_aux_lemma =>
                go_upto_region 13 with (first
                  | (go_at_call 21; refine (CG.out _ HGJ.out HEJ.out).mono ?_; rintro e w4 ⟨A4, d4, rfl, hr, hb⟩; have R4 := Lib.hid hr; have B4 := Lib.hid (BJ.out.trans (hb.mono BJ.out.size)); clear hr hb)
                  | (refine wpl_storeS rfl 34 (.tmp 13) _ rfl w4.heap.size (comL cc A4 cn d4) rfl rfl 34 zeroC (Blk.new w4 _ _) (infoC _ _ _ _) (by rw [comL_len]; rfl) (comL_one _ _ _ _) ?_))
                generalize hw5 : World.setRow _ _ _ = w5
                have S5 : Below w4.heap.size w4 w5 := by rw [← hw5]; exact (laidS w4 34 zeroC _).1
                have K5 : Hid (Blk w5 w4.heap.size 34 (comL cc A4 cn d4)) := Lib.hid (by rw [← hw5]; exact (laidS w4 34 zeroC _).2)
                have R5 := Lib.hid (R4.out.below S5)
                have B5 := Lib.hid (B4.out.trans (S5.mono B4.out.size))
                clear hw5 S5 B4 R4
                generalize w4.heap.size = g5 at K5 ⊢
                go_upto_region 14 with (first
                  | (go_at_call 32; refine (CR.out _).mono ?_; rintro e w6 ⟨A6, d6, rfl, hr, hb⟩; have T6 := Lib.hid hr; have R6 := Lib.hid (R5.out.below hb); have K6 := Lib.hid (K5.out.below hb); have B6 := Lib.hid (B5.out.trans (hb.mono B5.out.size)); clear hr hb)
                  | (refine wpl_storeS rfl 34 (.tmp 15) _ rfl w6.heap.size (comL cc A6 cn d6) rfl rfl 34 zeroC (Blk.new w6 _ _) (infoC _ _ _ _) (by rw [comL_len]; rfl) (comL_one _ _ _ _) ?_))
                generalize hw7 : World.setRow _ _ _ = w7
                have S7 : Below w6.heap.size w6 w7 := by rw [← hw7]; exact (laidS w6 34 zeroC _).1
                have H7 : Hid (Blk w7 w6.heap.size 34 (comL cc A6 cn d6)) := Lib.hid (by rw [← hw7]; exact (laidS w6 34 zeroC _).2)
                have K7 := Lib.hid (K6.out.below S7)
                have R7 := Lib.hid (R6.out.below S7)
                have T7 := Lib.hid (T6.out.below S7)
                have B7 := Lib.hid (B6.out.trans (S7.mono B6.out.size))
                clear hw7 S7 B6 B5 K5 K6 R5 R6 T6
                generalize w6.heap.size = g7 at H7 ⊢
                have I1 := Lib.hid (infoC cc A4 cn d4)
                have I2 := Lib.hid (infoC cc A6 cn d6)
                have E7 := Lib.hid (CE.out w7 A4 d4 A6 d6 (CA.out R7.out) (CA.out T7.out))
                generalize comL cc A4 cn d4 = v1 at K7 I1 E7
                generalize comL cc A6 cn d6 = v2 at H7 I2 E7
                clear R7 T7 CE CA CG CR
                go_wp2_with (first
                  | (refine wpl_guard (by rfl) ?_; refine wpl_loadS rfl 34 (.tmp 13) rfl ⟨g5, 0, none⟩ rfl v1 Tryz.isAgg34 I1.out (fun j u hu => by rw [addr_row _ rfl, Nat.zero_add]; exact K7.out.cell j u hu) ?_)
                  | (refine wpl_guard (by rfl) ?_; refine wpl_loadS rfl 34 (.tmp 15) rfl ⟨g7, 0, none⟩ rfl v2 Tryz.isAgg34 I2.out (fun j u hu => by rw [addr_row _ rfl, Nat.zero_add]; exact H7.out.cell j u hu) ?_)
                  | (go_at_call 31; refine E7.out.mono ?_; rintro e w8 ⟨rfl, hb⟩; have B8 := Lib.hid (B7.out.trans (hb.mono B7.out.size)); clear hb))
                go_roundw
                case measure => exact meas_step3 4 j HLT.out
                case rel => exact ⟨j + 1, HLT.out, by go_num, B8.out⟩
          · have j1 : ¬ ((j : Int) < 4) := by omega
            clear hlt hj hbj BJ HX
            as_aux_lemma =>
              go_wp2
              go_ret
              exact ⟨rfl, LJ.out⟩
end Go.Proofs.YticcianbphljpaaGreatDoor
