/- CommitParents: parents in their order; five, or two alike, may not be: the law's walk. -/
import Derived.Test.YticcianbphljpaaGreatDoorBn
import Derived.Test.YticcianbphljpaaGreatDoorP17x
import Derived.Test.YticcianbphljpaaGreatDoorP14x
import Derived.Test.YticcianbphljpaaGreatDoorP3x
import Derived.Test.YticcianbphljpaaGreatDoorP6x
namespace Go.Proofs.YticcianbphljpaaGreatDoor
open Go.RowKit
/-- A call, as one step of a region that draws. -/
theorem step_callG {P : Program} {o : Oper} {ops : Array Oper} {a : Act} {w : World} {K : Act → World → Prop} {Q : Exit → Act → World → Prop} {E : Prop} (hgd : Region.wanted o (yielded ops a.tmps) = true) (f : FuncId) (args : Array Value) (h0 : (execOp a.eval o).run P w = .ok (.enter f args) w) (R : Value → World → Prop)
    (hc : Calls P f args w fun e w' => ∃ v, e = .returned v ∧ R v w') (h : ∀ v w', R v w' → K (a.put o.dst v) w') : if Region.wanted o (yielded ops a.tmps) = true then Oper.wp P o a w K Q else E := by
  rw [if_pos hgd]
  unfold Oper.wp
  rw [h0]
  exact hc.mono fun e w' ⟨v, he, hr⟩ => by subst he; exact h v w' hr
set_option maxRecDepth 20000 in
set_option maxHeartbeats 12800000 in
theorem commitParentsLaw_any (W : World) (c : Com) (B : Option Addr) (m d : Nat) (h : ComAt W c B m d) (A : Option Addr) (n k : Nat) (ls : List Idt) (hs : Src W 32 A n (rowI ls)) (hk : n ≤ k) (hG : Gl W) (hE : Ge W) :
    Calls Tryz.prog 4 #[.agg (comL c B m d).toArray, .slice A n k] W fun e W' => e = .returned (.bool true) ∧ Below W.heap.size W W' := by
  obtain ⟨q, hq⟩ : ∃ q : Nat, q = min n 6 := ⟨_, rfl⟩
  have hmin : min (n : Int) 6 = (q : Int) := by omega
  have hqk : (q : Int) ≤ (k : Int) := by omega
  have hq6 : q ≤ 6 := by omega
  obtain ⟨q1, hq1⟩ : ∃ q1 : Nat, q1 = min m 6 := ⟨_, rfl⟩
  obtain ⟨qs, hqs⟩ : ∃ qs, qs = ls.take q := ⟨_, rfl⟩
  have hsq : ∀ w, Below W.heap.size W w → Src w 32 A q (rowI qs) := fun w hw => by rw [hqs]; exact srcI_take (srcI_below hs hw) q (by omega)
  have hql : qs.length = q := by have := src_len hs; rw [hqs, List.length_take]; omega
  obtain ⟨n1, hn1⟩ : ∃ n1 : ByteArray, (⟨(c.note.take 110).toArray⟩ : ByteArray) = n1 := ⟨_, rfl⟩
  obtain ⟨n2, hn2⟩ : ∃ n2 : ByteArray, n2 = ⟨(c.note.take 100).toArray⟩ := ⟨_, rfl⟩
  have cT : ∀ w, Calls Tryz.prog 17 #[.string n1, .int .i64 100] w fun e w' => e = .returned (.string n2) ∧ w' = w := fun w => by
    have := text_cut w n1 100
    have e : n1.data.toList.take 100 = c.note.take 100 := by
      rw [← hn1]
      show (c.note.take 110).take 100 = _
      rw [List.take_take]
      rfl
    rw [e, ← hn2] at this
    exact this
  obtain ⟨w0, hw0⟩ : ∃ w0, w0 = W.alloc (.cells (comL c B m d).toArray 34) := ⟨_, rfl⟩
  have l0 : Below W.heap.size W w0 := by rw [hw0]; exact (Below.refl _ _).alloc (Nat.le_refl _) _
  have x0 : Blk w0 W.heap.size 34 (comL c B m d) := by rw [hw0]; exact Blk.new W _ _
  have cB := begun6_any w0 (hG.below l0) (hE.below l0)
  have cC := fun w (hw : Below W.heap.size W w) => comCut_any w c B m d (h.below hw) q1 hq1
  obtain ⟨g, hg⟩ : ∃ g, g = W.heap.size := ⟨_, rfl⟩
  rw [← hg] at x0
  have HGG := Lib.hid hg
  have CB := Lib.hid cB
  have CC := Lib.hid cC
  have CT := Lib.hid cT
  have IC := Lib.hid (infoC c B m d)
  obtain ⟨cl, hcl⟩ : ∃ cl, cl = comL c B m d := ⟨_, rfl⟩
  rw [← hcl] at hw0 x0 CC IC ⊢
  have X0 := Lib.hid x0
  have L0 := Lib.hid l0
  have HG := Lib.hid hG
  have HE := Lib.hid hE
  have SQ := Lib.hid hsq
  have QL := Lib.hid hql
  have Q6 := Lib.hid hq6
  have HN1 := Lib.hid hn1
  have HN2 := Lib.hid hn2
  have HB := Lib.hid h.bits
  have CLZ := Lib.hid (show cl.length = 35 from by rw [hcl, comL_len])
  clear cB cC cT l0 x0 hG hE hsq hql hq6 hn1 hn2 hcl hqs hs hk hq hq1 h
  go_enter Tryz.func4, Tryz.ntmps4
  go_upto_region 1 with fail
  change Code.wp _ _ _ _ (W.alloc (.cells cl.toArray 34))
  rw [← hw0, ← hg]
  clear hw0 hg
  go_upto_region 5 with (first
    | (go_at_call 13; refine CB.out.mono ?_; rintro e w1 ⟨rfl, hb⟩; have X1 := Lib.hid (X0.out.below hb); have L1 := Lib.hid (L0.out.trans (hb.mono L0.out.size)); clear hb)
    | (refine wpl_loadS rfl 34 (.tmp 2) rfl ⟨g, 0, none⟩ rfl cl Tryz.isAgg34 IC.out (fun j u hu => by rw [addr_row _ rfl, Nat.zero_add]; exact X1.out.cell j u hu) ?_)
    | (go_at_call 16; refine (CC.out _ L1.out).mono ?_; rintro e w2 ⟨B2, d2, rfl, _, hb⟩; have X2 := Lib.hid (X1.out.below hb); have L2 := Lib.hid (L1.out.trans (hb.mono L1.out.size)); clear hb)
    | (refine wpl_storeS rfl 34 (.tmp 2) _ rfl g (comL ⟨c.tree, c.ps.take q1, c.wh, c.note.take 110⟩ B2 q1 d2) rfl rfl 34 cl X2.out (infoC _ _ _ _) (by rw [CLZ.out, comL_len]) (comL_one _ _ _ _) ?_))
  generalize hw3 : World.setRow _ _ _ = w3
  have X3 : Hid (Blk w3 g 34 (comL ⟨c.tree, c.ps.take q1, c.wh, c.note.take 110⟩ B2 q1 d2)) := Lib.hid (by rw [← hw3]; exact X2.out.row _)
  have L3 : Hid (Below W.heap.size W w3) := Lib.hid (by rw [← hw3]; exact below_setRow' L2.out (by rw [HGG.out]; exact Nat.le_refl _) _)
  clear hw3 X0 X1 X2 L0 L1 L2 CC CB IC CLZ
  have hc34 : w3.cell? ⟨g, 34, none⟩ = some (.string n1) := by
    have := X3.out.cell 34 _ (comL_at _ _ _ _).2.2
    rw [this]
    exact congrArg (fun z => some (Value.string z)) HN1.out
  have hf34 := X3.out.frozen 34
  go_upto_region 6 with (go_at_call 17; refine (CT.out _).mono ?_; rintro e w' ⟨rfl, hw⟩; replace hw := hw.symm; subst hw)
  clear hc34 hf34
  obtain ⟨w4, hw4⟩ : ∃ w4, w4 = w3.setCell ⟨g, 34, none⟩ (.string n2) := ⟨_, rfl⟩
  rw [← hw4]
  have X4 : Hid (Blk w4 g 34 (comL ⟨c.tree, c.ps.take q1, c.wh, c.note.take 100⟩ B2 q1 d2)) := Lib.hid (by
    rw [hw4]
    have := X3.out.setCell 34 (.string n2)
    rw [comL_set34] at this
    have ht : n2.data.toList = c.note.take 100 := by rw [HN2.out]
    rw [ht] at this
    exact this)
  have L4 : Hid (Below W.heap.size W w4) := Lib.hid (by rw [hw4]; exact below_setCell' L3.out g 34 (by rw [HGG.out]; exact Nat.le_refl _) _)
  clear hw4 X3 L3 CT
  -- REST
  have hc32 : w4.cell? ⟨g, 32, none⟩ = some (.slice B2 q1 d2) := X4.out.cell 32 _ (comL_at _ _ _ _).1
  have hf32 := X4.out.frozen 32
  go_upto_region 7 with (at_builtin; refine wpl_append rfl (.const (.slice none 0 0)) (.tmp 24) 31 rfl w4.heap.size 25 (.agg zero32.toArray) 32 32 Tryz.underlying31 Tryz.infoIdz rfl (by decide) (.slice none 0 0) 0 [] rfl (RowQ.nil _ _ _ _) A q k (rowI qs) rfl (SQ.out _ L4.out) (by have := Q6.out; omega) (by have := Q6.out; omega) (Nat.le_refl _) ?_; intro v5 w5 hr5 hg5 _; rw [Nat.zero_add, List.nil_append] at hr5; obtain ⟨A5, c5, rfl, hq5, hm5⟩ := hr5.shape; have R5 := Lib.hid hr5; have B5 := Lib.hid (grown_nil hg5); have M5 := Lib.hid (And.intro hq5 hm5); have hd32 := (X4.out.below B5.out).cell 32 _ (comL_at _ _ _ _).1; have he32 := (X4.out.below B5.out).frozen 32; clear hr5 hg5 hq5 hm5)
  clear hc32 hf32 hd32 he32 hmin hqk
  obtain ⟨w6, hw6⟩ : ∃ w6, w6 = w5.setCell ⟨g, 32, none⟩ (.slice A5 q c5) := ⟨_, rfl⟩
  rw [← hw6]
  obtain ⟨c2, hc2⟩ : ∃ c2 : Com, c2 = ⟨c.tree, qs, c.wh, c.note.take 100⟩ := ⟨_, rfl⟩
  have X6 : Hid (Blk w6 g 34 (comL c2 A5 q c5)) := Lib.hid (by
    rw [hw6, hc2]
    have := (X4.out.below B5.out).setCell 32 (.slice A5 q c5)
    rw [comL_set32 _ B2 A5 q1 d2 q c5 qs] at this
    exact this)
  have hgl : g < w4.heap.size := X4.out.lt
  have R6 : Hid (RowQ w6 w4.heap.size 25 32 (.slice A5 q c5) q (rowI qs)) := Lib.hid (by
    rw [hw6]
    have hne : (Value.slice A5 q c5).ownBlock ≠ some g := fun e => by have := (R5.out.lt g e).1; omega
    exact R5.out.far hne _)
  have L6 : Hid (Below W.heap.size W w6) := Lib.hid (by rw [hw6]; exact below_setCell' (L4.out.trans (B5.out.mono L4.out.size)) g 32 (by rw [HGG.out]; exact Nat.le_refl _) _)
  have AT : Hid (∀ w, Below w6.heap.size w6 w → ComAt w c2 A5 q c5) := Lib.hid fun w hw => by
    rw [hc2]
    exact ⟨srcI_below (R6.out.src (rowI_one _)) hw, M5.out.1, M5.out.2, HB.out, Nat.le_trans (List.length_take_le _ _) (by decide)⟩
  have hmc : mayC c2 = (decide (q ≤ 4) && decide ((sortI qs).length = q) && fmay c.wh) := by
    rw [hc2]
    unfold mayC
    have h100 : (c.note.take 100).length ≤ 100 := List.length_take_le _ _
    simp only [QL.out, decide_eq_true h100, Bool.and_true]
  have HC2 := Lib.hid hc2
  obtain ⟨tb, htb⟩ : ∃ tb : ByteArray, tb = ⟨(bif mayC c2 then commitB c2 else []).toArray⟩ := ⟨_, rfl⟩
  have cP := fun w (hw : Below w6.heap.size w6 w) (h2 : Gl w) => commitPut_any w c2 A5 q c5 (AT.out w hw) (by have := Q6.out; omega) h2
  unfold putCV at cP
  rw [← htb] at cP
  have HMC := Lib.hid hmc
  have HTB := Lib.hid htb
  obtain ⟨mc, hmcv⟩ : ∃ mc, mc = mayC c2 := ⟨_, rfl⟩
  rw [← hmcv] at cP HMC HTB
  have HMV := Lib.hid hmcv
  have CP := Lib.hid cP
  have ICC := Lib.hid (infoC c2 A5 q c5)
  clear hw6 hgl hmc htb cP hmcv hc2 R5 B5 X4 L4 M5
  go_upto_region 8 with (first
    | (refine wpl_loadS rfl 34 (.tmp 2) rfl ⟨g, 0, none⟩ rfl (comL c2 A5 q c5) Tryz.isAgg34 ICC.out (fun j u hu => by rw [addr_row _ rfl, Nat.zero_add]; exact X6.out.cell j u hu) ?_)
    | (go_at_call 18; refine (CP.out _ (Below.refl _ _) (HG.out.below L6.out)).mono ?_; rintro e w7 ⟨rfl, hb⟩; have B7 := Lib.hid hb; clear hb))
  clear CP ICC
  obtain ⟨sn, hsn⟩ : ∃ sn, sn = (sortI qs).length := ⟨_, rfl⟩
  have cS := fun w (hw : Below w6.heap.size w6 w) => rsort_any w A5 q c5 qs (srcI_below (R6.out.src (rowI_one _)) hw) (by have := Q6.out; omega)
  unfold IdsPost at cS
  rw [← hsn] at cS HMC
  have CS := Lib.hid cS
  obtain ⟨tw, htw⟩ : ∃ tw, ((sn : Int) != (q : Int)) = tw := ⟨_, rfl⟩
  obtain ⟨fm, hfm⟩ : ∃ fm, fm = fmay c.wh := ⟨_, rfl⟩
  have hm2 : mc = (decide (q ≤ 4) && !tw && fm) := by
    rw [HMC.out, ← htw, ← hfm]
    congr 2
    rw [Bool.eq_iff_iff, decide_eq_true_eq, Bool.not_eq_true', bne_eq_false_iff_eq]
    omega
  have HM2 := Lib.hid hm2
  have cF := fun w => rmay_any w c.wh HB.out
  rw [← hfm] at cF
  have CF := Lib.hid cF
  clear cS hsn cF hfm hm2 HMC
  go_cut [8] (fun v wx => v = .bool tw ∧ Below w6.heap.size w6 wx)
  case first =>
    refine wp_region_any (by kernel_rfl) ?_
    change wpAny _ _ _ _ _ _ _ (World.drew _)
    have B8 : Hid (Below w6.heap.size w6 w7.drew) := Lib.hid B7.out.drew
    generalize World.drew w7 = w8 at B8 ⊢
    clear B7
    refine wpAny_bare [0, 4] 7 (by rfl) (by kernel_rfl) (fun _ _ _ d _ h => by cases d <;> exact h) ?_
    simp only [bareO, List.filterMap_cons, List.filterMap_nil, List.getElem?_toArray, List.getElem?_cons_succ, List.getElem?_cons_zero]
    repeat (first | quiet_step (fail) | go_big_quiet_step (fail))
    refine wpQuiet_nil ?_
    refine wpAny_ready (rs := [1, 5]) (by kernel_rfl) (by simp) ?_
    refine (AllReady.cons rfl (fun K hK => ?_) (AllReady.cons rfl (fun K hK => ?_) AllReady.nil))
    refine step_cellg (by rfl) 31 (.tmp 32) rfl ⟨g, 32, none⟩ rfl (.slice A5 q c5) (Tryz.isAgg31 _) ((X6.out.below B8.out).cell 32 _ (comL_at c2 A5 q c5).1) ?_
    refine hK _ _ ?_
    clear hK K
    refine wpAny_ready (rs := [2, 5]) (by kernel_rfl) (by simp) ?_
    refine (AllReady.cons rfl (fun K hK => ?_) (AllReady.cons rfl (fun K hK => ?_) AllReady.nil))
    refine step_callG (by rfl) 19 #[.slice A5 q c5] (by first | rfl | (simp [execOp, go_sem]; done) | (unfold execOp; go_simp; done) | (unfold execOp; simp; rfl)) (fun v w9 => ∃ A9 c9, v = .slice A9 sn c9 ∧ Below w6.heap.size w6 w9) ((CS.out _ B8.out).mono fun e w9 ⟨A9, c9, he, _, hb⟩ => ⟨_, he, A9, c9, rfl, B8.out.trans (hb.mono B8.out.size)⟩) ?_
    rintro _ w9 ⟨A9, c9, rfl, hb9⟩
    have B9 := Lib.hid hb9
    clear hb9
    refine hK _ _ ?_
    clear hK K
    refine wpAny_ready (rs := [3, 5]) (by kernel_rfl) (by simp) ?_
    refine (AllReady.cons rfl (fun K hK => ?_) (AllReady.cons rfl (fun K hK => ?_) AllReady.nil))
    go_simp
    refine hK _ _ ?_
    clear hK K
    refine wpAny_ready (rs := [5]) (by kernel_rfl) (by simp) ?_
    refine (AllReady.cons rfl (fun K hK => ?_) AllReady.nil)
    refine step_cellg (by rfl) 31 (.tmp 36) rfl ⟨g, 32, none⟩ rfl (.slice A5 q c5) (Tryz.isAgg31 _) ((X6.out.below B9.out).cell 32 _ (comL_at c2 A5 q c5).1) ?_
    refine hK _ _ ?_
    clear hK K
    refine wpAny_ready (rs := [6]) (by kernel_rfl) (by simp) ?_
    refine (AllReady.cons rfl (fun K hK => ?_) AllReady.nil)
    go_simp
    refine hK _ _ ?_
    clear hK K
    refine wpAny_ready (rs := [7]) (by kernel_rfl) (by simp) ?_
    refine (AllReady.cons rfl (fun K hK => ?_) AllReady.nil)
    go_simp
    refine hK _ _ ?_
    clear hK K
    refine wpAny_ready (rs := [8]) (by kernel_rfl) (by simp) ?_
    refine (AllReady.cons rfl (fun K hK => ?_) AllReady.nil)
    go_simp
    refine hK _ _ ?_
    clear hK K
    refine wpAny_done (by kernel_rfl) ?_ _
    rotate_left
    refine step_cellg (by rfl) 31 (.tmp 36) rfl ⟨g, 32, none⟩ rfl (.slice A5 q c5) (Tryz.isAgg31 _) ((X6.out.below B9.out).cell 32 _ (comL_at c2 A5 q c5).1) ?_
    refine hK _ _ ?_
    clear hK K
    refine wpAny_ready (rs := [3, 6]) (by kernel_rfl) (by simp) ?_
    refine (AllReady.cons rfl (fun K hK => ?_) (AllReady.cons rfl (fun K hK => ?_) AllReady.nil))
    go_simp
    refine hK _ _ ?_
    clear hK K
    refine wpAny_ready (rs := [6]) (by kernel_rfl) (by simp) ?_
    refine (AllReady.cons rfl (fun K hK => ?_) AllReady.nil)
    go_simp
    refine hK _ _ ?_
    clear hK K
    refine wpAny_ready (rs := [7]) (by kernel_rfl) (by simp) ?_
    refine (AllReady.cons rfl (fun K hK => ?_) AllReady.nil)
    go_simp
    refine hK _ _ ?_
    clear hK K
    refine wpAny_ready (rs := [8]) (by kernel_rfl) (by simp) ?_
    refine (AllReady.cons rfl (fun K hK => ?_) AllReady.nil)
    go_simp
    refine hK _ _ ?_
    clear hK K
    refine wpAny_done (by kernel_rfl) ?_ _
    rotate_left
    go_simp
    refine hK _ _ ?_
    clear hK K
    refine wpAny_ready (rs := [3]) (by kernel_rfl) (by simp) ?_
    refine (AllReady.cons rfl (fun K hK => ?_) AllReady.nil)
    go_simp
    refine hK _ _ ?_
    clear hK K
    refine wpAny_ready (rs := [7]) (by kernel_rfl) (by simp) ?_
    refine (AllReady.cons rfl (fun K hK => ?_) AllReady.nil)
    go_simp
    refine hK _ _ ?_
    clear hK K
    refine wpAny_ready (rs := [8]) (by kernel_rfl) (by simp) ?_
    refine (AllReady.cons rfl (fun K hK => ?_) AllReady.nil)
    go_simp
    refine hK _ _ ?_
    clear hK K
    refine wpAny_done (by kernel_rfl) ?_ _
    rotate_left
    refine step_cellg (by rfl) 31 (.tmp 36) rfl ⟨g, 32, none⟩ rfl (.slice A5 q c5) (Tryz.isAgg31 _) ((X6.out.below B8.out).cell 32 _ (comL_at c2 A5 q c5).1) ?_
    refine hK _ _ ?_
    clear hK K
    refine wpAny_ready (rs := [2, 6]) (by kernel_rfl) (by simp) ?_
    refine (AllReady.cons rfl (fun K hK => ?_) (AllReady.cons rfl (fun K hK => ?_) AllReady.nil))
    refine step_callG (by rfl) 19 #[.slice A5 q c5] (by first | rfl | (simp [execOp, go_sem]; done) | (unfold execOp; go_simp; done) | (unfold execOp; simp; rfl)) (fun v w9 => ∃ A9 c9, v = .slice A9 sn c9 ∧ Below w6.heap.size w6 w9) ((CS.out _ B8.out).mono fun e w9 ⟨A9, c9, he, _, hb⟩ => ⟨_, he, A9, c9, rfl, B8.out.trans (hb.mono B8.out.size)⟩) ?_
    rintro _ w9 ⟨A9, c9, rfl, hb9⟩
    have B9 := Lib.hid hb9
    clear hb9
    refine hK _ _ ?_
    clear hK K
    refine wpAny_ready (rs := [3, 6]) (by kernel_rfl) (by simp) ?_
    refine (AllReady.cons rfl (fun K hK => ?_) (AllReady.cons rfl (fun K hK => ?_) AllReady.nil))
    go_simp
    refine hK _ _ ?_
    clear hK K
    refine wpAny_ready (rs := [6]) (by kernel_rfl) (by simp) ?_
    refine (AllReady.cons rfl (fun K hK => ?_) AllReady.nil)
    go_simp
    refine hK _ _ ?_
    clear hK K
    refine wpAny_ready (rs := [7]) (by kernel_rfl) (by simp) ?_
    refine (AllReady.cons rfl (fun K hK => ?_) AllReady.nil)
    go_simp
    refine hK _ _ ?_
    clear hK K
    refine wpAny_ready (rs := [8]) (by kernel_rfl) (by simp) ?_
    refine (AllReady.cons rfl (fun K hK => ?_) AllReady.nil)
    go_simp
    refine hK _ _ ?_
    clear hK K
    refine wpAny_done (by kernel_rfl) ?_ _
    rotate_left
    go_simp
    refine hK _ _ ?_
    clear hK K
    refine wpAny_ready (rs := [3]) (by kernel_rfl) (by simp) ?_
    refine (AllReady.cons rfl (fun K hK => ?_) AllReady.nil)
    go_simp
    refine hK _ _ ?_
    clear hK K
    refine wpAny_ready (rs := [7]) (by kernel_rfl) (by simp) ?_
    refine (AllReady.cons rfl (fun K hK => ?_) AllReady.nil)
    go_simp
    refine hK _ _ ?_
    clear hK K
    refine wpAny_ready (rs := [8]) (by kernel_rfl) (by simp) ?_
    refine (AllReady.cons rfl (fun K hK => ?_) AllReady.nil)
    go_simp
    refine hK _ _ ?_
    clear hK K
    refine wpAny_done (by kernel_rfl) ?_ _
    rotate_left
    go_simp
    refine hK _ _ ?_
    clear hK K
    refine wpAny_ready (rs := [2]) (by kernel_rfl) (by simp) ?_
    refine (AllReady.cons rfl (fun K hK => ?_) AllReady.nil)
    refine step_callG (by rfl) 19 #[.slice A5 q c5] (by first | rfl | (simp [execOp, go_sem]; done) | (unfold execOp; go_simp; done) | (unfold execOp; simp; rfl)) (fun v w9 => ∃ A9 c9, v = .slice A9 sn c9 ∧ Below w6.heap.size w6 w9) ((CS.out _ B8.out).mono fun e w9 ⟨A9, c9, he, _, hb⟩ => ⟨_, he, A9, c9, rfl, B8.out.trans (hb.mono B8.out.size)⟩) ?_
    rintro _ w9 ⟨A9, c9, rfl, hb9⟩
    have B9 := Lib.hid hb9
    clear hb9
    refine hK _ _ ?_
    clear hK K
    refine wpAny_ready (rs := [3]) (by kernel_rfl) (by simp) ?_
    refine (AllReady.cons rfl (fun K hK => ?_) AllReady.nil)
    go_simp
    refine hK _ _ ?_
    clear hK K
    refine wpAny_ready (rs := [7]) (by kernel_rfl) (by simp) ?_
    refine (AllReady.cons rfl (fun K hK => ?_) AllReady.nil)
    go_simp
    refine hK _ _ ?_
    clear hK K
    refine wpAny_ready (rs := [8]) (by kernel_rfl) (by simp) ?_
    refine (AllReady.cons rfl (fun K hK => ?_) AllReady.nil)
    go_simp
    refine hK _ _ ?_
    clear hK K
    refine wpAny_done (by kernel_rfl) ?_ _
    rotate_left
    refine step_cellg (by rfl) 31 (.tmp 36) rfl ⟨g, 32, none⟩ rfl (.slice A5 q c5) (Tryz.isAgg31 _) ((X6.out.below B8.out).cell 32 _ (comL_at c2 A5 q c5).1) ?_
    refine hK _ _ ?_
    clear hK K
    refine wpAny_ready (rs := [1, 6]) (by kernel_rfl) (by simp) ?_
    refine (AllReady.cons rfl (fun K hK => ?_) (AllReady.cons rfl (fun K hK => ?_) AllReady.nil))
    refine step_cellg (by rfl) 31 (.tmp 32) rfl ⟨g, 32, none⟩ rfl (.slice A5 q c5) (Tryz.isAgg31 _) ((X6.out.below B8.out).cell 32 _ (comL_at c2 A5 q c5).1) ?_
    refine hK _ _ ?_
    clear hK K
    refine wpAny_ready (rs := [2, 6]) (by kernel_rfl) (by simp) ?_
    refine (AllReady.cons rfl (fun K hK => ?_) (AllReady.cons rfl (fun K hK => ?_) AllReady.nil))
    refine step_callG (by rfl) 19 #[.slice A5 q c5] (by first | rfl | (simp [execOp, go_sem]; done) | (unfold execOp; go_simp; done) | (unfold execOp; simp; rfl)) (fun v w9 => ∃ A9 c9, v = .slice A9 sn c9 ∧ Below w6.heap.size w6 w9) ((CS.out _ B8.out).mono fun e w9 ⟨A9, c9, he, _, hb⟩ => ⟨_, he, A9, c9, rfl, B8.out.trans (hb.mono B8.out.size)⟩) ?_
    rintro _ w9 ⟨A9, c9, rfl, hb9⟩
    have B9 := Lib.hid hb9
    clear hb9
    refine hK _ _ ?_
    clear hK K
    refine wpAny_ready (rs := [3, 6]) (by kernel_rfl) (by simp) ?_
    refine (AllReady.cons rfl (fun K hK => ?_) (AllReady.cons rfl (fun K hK => ?_) AllReady.nil))
    go_simp
    refine hK _ _ ?_
    clear hK K
    refine wpAny_ready (rs := [6]) (by kernel_rfl) (by simp) ?_
    refine (AllReady.cons rfl (fun K hK => ?_) AllReady.nil)
    go_simp
    refine hK _ _ ?_
    clear hK K
    refine wpAny_ready (rs := [7]) (by kernel_rfl) (by simp) ?_
    refine (AllReady.cons rfl (fun K hK => ?_) AllReady.nil)
    go_simp
    refine hK _ _ ?_
    clear hK K
    refine wpAny_ready (rs := [8]) (by kernel_rfl) (by simp) ?_
    refine (AllReady.cons rfl (fun K hK => ?_) AllReady.nil)
    go_simp
    refine hK _ _ ?_
    clear hK K
    refine wpAny_done (by kernel_rfl) ?_ _
    rotate_left
    go_simp
    refine hK _ _ ?_
    clear hK K
    refine wpAny_ready (rs := [3]) (by kernel_rfl) (by simp) ?_
    refine (AllReady.cons rfl (fun K hK => ?_) AllReady.nil)
    go_simp
    refine hK _ _ ?_
    clear hK K
    refine wpAny_ready (rs := [7]) (by kernel_rfl) (by simp) ?_
    refine (AllReady.cons rfl (fun K hK => ?_) AllReady.nil)
    go_simp
    refine hK _ _ ?_
    clear hK K
    refine wpAny_ready (rs := [8]) (by kernel_rfl) (by simp) ?_
    refine (AllReady.cons rfl (fun K hK => ?_) AllReady.nil)
    go_simp
    refine hK _ _ ?_
    clear hK K
    refine wpAny_done (by kernel_rfl) ?_ _
    rotate_left
    go_simp
    refine hK _ _ ?_
    clear hK K
    refine wpAny_ready (rs := [2]) (by kernel_rfl) (by simp) ?_
    refine (AllReady.cons rfl (fun K hK => ?_) AllReady.nil)
    refine step_callG (by rfl) 19 #[.slice A5 q c5] (by first | rfl | (simp [execOp, go_sem]; done) | (unfold execOp; go_simp; done) | (unfold execOp; simp; rfl)) (fun v w9 => ∃ A9 c9, v = .slice A9 sn c9 ∧ Below w6.heap.size w6 w9) ((CS.out _ B8.out).mono fun e w9 ⟨A9, c9, he, _, hb⟩ => ⟨_, he, A9, c9, rfl, B8.out.trans (hb.mono B8.out.size)⟩) ?_
    rintro _ w9 ⟨A9, c9, rfl, hb9⟩
    have B9 := Lib.hid hb9
    clear hb9
    refine hK _ _ ?_
    clear hK K
    refine wpAny_ready (rs := [3]) (by kernel_rfl) (by simp) ?_
    refine (AllReady.cons rfl (fun K hK => ?_) AllReady.nil)
    go_simp
    refine hK _ _ ?_
    clear hK K
    refine wpAny_ready (rs := [7]) (by kernel_rfl) (by simp) ?_
    refine (AllReady.cons rfl (fun K hK => ?_) AllReady.nil)
    go_simp
    refine hK _ _ ?_
    clear hK K
    refine wpAny_ready (rs := [8]) (by kernel_rfl) (by simp) ?_
    refine (AllReady.cons rfl (fun K hK => ?_) AllReady.nil)
    go_simp
    refine hK _ _ ?_
    clear hK K
    refine wpAny_done (by kernel_rfl) ?_ _
    rotate_left
    go_simp
    refine hK _ _ ?_
    clear hK K
    refine wpAny_ready (rs := [1]) (by kernel_rfl) (by simp) ?_
    refine (AllReady.cons rfl (fun K hK => ?_) AllReady.nil)
    refine step_cellg (by rfl) 31 (.tmp 32) rfl ⟨g, 32, none⟩ rfl (.slice A5 q c5) (Tryz.isAgg31 _) ((X6.out.below B8.out).cell 32 _ (comL_at c2 A5 q c5).1) ?_
    refine hK _ _ ?_
    clear hK K
    refine wpAny_ready (rs := [2]) (by kernel_rfl) (by simp) ?_
    refine (AllReady.cons rfl (fun K hK => ?_) AllReady.nil)
    refine step_callG (by rfl) 19 #[.slice A5 q c5] (by first | rfl | (simp [execOp, go_sem]; done) | (unfold execOp; go_simp; done) | (unfold execOp; simp; rfl)) (fun v w9 => ∃ A9 c9, v = .slice A9 sn c9 ∧ Below w6.heap.size w6 w9) ((CS.out _ B8.out).mono fun e w9 ⟨A9, c9, he, _, hb⟩ => ⟨_, he, A9, c9, rfl, B8.out.trans (hb.mono B8.out.size)⟩) ?_
    rintro _ w9 ⟨A9, c9, rfl, hb9⟩
    have B9 := Lib.hid hb9
    clear hb9
    refine hK _ _ ?_
    clear hK K
    refine wpAny_ready (rs := [3]) (by kernel_rfl) (by simp) ?_
    refine (AllReady.cons rfl (fun K hK => ?_) AllReady.nil)
    go_simp
    refine hK _ _ ?_
    clear hK K
    refine wpAny_ready (rs := [7]) (by kernel_rfl) (by simp) ?_
    refine (AllReady.cons rfl (fun K hK => ?_) AllReady.nil)
    go_simp
    refine hK _ _ ?_
    clear hK K
    refine wpAny_ready (rs := [8]) (by kernel_rfl) (by simp) ?_
    refine (AllReady.cons rfl (fun K hK => ?_) AllReady.nil)
    go_simp
    refine hK _ _ ?_
    clear hK K
    refine wpAny_done (by kernel_rfl) ?_ _
    rotate_left
    all_goals
      go_wp2
      go_meet
      exact ⟨rfl, B9.out⟩
  case rest =>
    obtain ⟨rfl, hb⟩ := hcut
    have BC := Lib.hid hb
    clear hb CS B7
    have hc33 : wc.cell? ⟨g, 33, none⟩ = some (.float .f64 c.wh) := by
      have := (X6.out.below BC.out).cell 33 _ (comL_at c2 A5 q c5).2.1
      rw [this, HC2.out]
    have hc32 := (X6.out.below BC.out).cell 32 _ (comL_at c2 A5 q c5).1
    go_upto_region 9 with fail
    go_cut [54] (fun v wx => v = .bool false ∧ Below w6.heap.size w6 wx)
    case first =>
      by_cases hq4 : q ≤ 4
      · have q4 : (q : Int) ≤ 4 := by omega
        have hm := HM2.out
        rw [decide_eq_true hq4] at hm
        clear hq4 HM2
        cases fm <;> cases tw
        all_goals
          subst hm
          go_wp2_with (go_at_call 20; refine (CF.out _).mono ?_; rintro e w9 ⟨rfl, t, rfl⟩)
          go_meet
          exact ⟨by first | rfl | simp, below_drewN' BC.out _⟩
      · have q4 : decide ((q : Int) ≤ 4) = false := decide_eq_false (by omega)
        have hm := HM2.out
        rw [decide_eq_false hq4] at hm
        clear hq4 HM2
        cases fm <;> cases tw
        all_goals
          subst hm
          go_wp2_with (go_at_call 20; refine (CF.out _).mono ?_; rintro e w9 ⟨rfl, t, rfl⟩)
          go_meet
          exact ⟨by first | rfl | simp, below_drewN' BC.out _⟩
    case rest =>
      obtain ⟨rfl, hb⟩ := hcut
      have BD := Lib.hid hb
      have LD := Lib.hid (L6.out.trans (hb.mono L6.out.size))
      clear hb hc33 hc32 BC CF HM2
      have hmay := HMV.out
      have htb := HTB.out
      cases mc
      · have cG := fun w hw hv => commitGet_any w ⟨([] : List UInt8).toArray⟩ [] rfl (by decide) hw hv
        unfold GetCPost at cG
        rw [getC_nil] at cG
        have htb' : tb = ⟨([] : List UInt8).toArray⟩ := htb
        rw [← htb'] at cG
        have CG := Lib.hid cG
        clear cG htb htb' hmay
        go_upto_region 12 with (first
          | (go_at_call 21; refine (CG.out _ (HG.out.below LD.out) (HE.out.below LD.out)).mono ?_; rintro e w10 ⟨rfl, hb⟩; have L10 := Lib.hid (LD.out.trans (hb.mono LD.out.size)); clear hb)
          | (refine wpl_storeS rfl 34 (.tmp 9) _ rfl w10.heap.size zeroC rfl rfl 34 zeroC (Blk.new w10 _ _) infoZC rfl (comL_one _ _ _ _) ?_))
        generalize hw : World.setRow _ _ _ = w11
        have L11 : Hid (Below W.heap.size W w11) := Lib.hid (L10.out.trans (Below.mono (by rw [← hw]; exact (laidS w10 34 zeroC _).1) L10.out.size))
        clear hw
        go_wp2
        go_ret
        exact ⟨rfl, L11.out⟩
      · have hbits : c2.wh < 18446744073709551616 := by rw [HC2.out]; exact HB.out
        have hps : c2.ps = qs := by rw [HC2.out]
        have htb' : tb = ⟨(commitB c2).toArray⟩ := htb
        have tz := commitB_len c2 hbits hmay.symm
        have cG := fun w hw hv => commitGet_any w ⟨(commitB c2).toArray⟩ (commitB c2) rfl (by rw [ba_size]; show (commitB c2).length < _; omega) hw hv
        unfold GetCPost at cG
        rw [getC_put c2 hbits hmay.symm, ← htb'] at cG
        simp only [hps, QL.out] at cG
        have CG := Lib.hid cG
        clear cG htb htb' hmay tz hbits hps
        go_upto_region 12 with (first
          | (go_at_call 21; refine (CG.out _ (HG.out.below LD.out) (HE.out.below LD.out)).mono ?_; rintro e w10 ⟨A10, d10, rfl, hr, hb⟩; have R10 := Lib.hid hr; have B10 := Lib.hid (BD.out.trans (hb.mono BD.out.size)); have L10 := Lib.hid (LD.out.trans (hb.mono LD.out.size)); clear hr hb)
          | (refine wpl_storeS rfl 34 (.tmp 9) _ rfl w10.heap.size (comL c2 A10 q d10) rfl rfl 34 zeroC (Blk.new w10 _ _) (infoC _ _ _ _) (by rw [comL_len]; rfl) (comL_one _ _ _ _) ?_))
        generalize hw : World.setRow _ _ _ = w11
        have S11 : Hid (Below w10.heap.size w10 w11) := Lib.hid (by rw [← hw]; exact (laidS w10 34 zeroC _).1)
        have X11 : Hid (Blk w11 w10.heap.size 34 (comL c2 A10 q d10)) := Lib.hid (by rw [← hw]; exact (laidS w10 34 zeroC _).2)
        clear hw
        have L11 := Lib.hid (L10.out.trans (S11.out.mono L10.out.size))
        have B11 := Lib.hid (B10.out.trans (S11.out.mono B10.out.size))
        have Y11 := Lib.hid (X6.out.below B11.out)
        have R11 := Lib.hid (R10.out.below S11.out)
        have Z11 := Lib.hid (srcI_below (R6.out.src (rowI_one _)) B11.out)
        generalize w10.heap.size = g9 at X11 ⊢
        obtain ⟨nb, hnb⟩ : ∃ nb : ByteArray, (⟨c2.note.toArray⟩ : ByteArray) = nb := ⟨_, rfl⟩
        have ha32 := X11.out.cell 32 _ (comL_at c2 A10 q d10).1
        have hb32 := Y11.out.cell 32 _ (comL_at c2 A5 q c5).1
        have ha34 := X11.out.cell 34 _ (comL_at c2 A10 q d10).2.2
        have hb34 := Y11.out.cell 34 _ (comL_at c2 A5 q c5).2.2
        rw [hnb] at ha34 hb34
        have eqI : ∀ w, (binOp .eql 25 (.agg (encI c2.tree).toArray) (.agg (encI c2.tree).toArray)).run Tryz.prog w = .ok (.bool true) w := fun w => by have := eqlAtI.1 c2.tree c2.tree w; simpa using this
        have guI : ∀ op p q w, (eqGuard op 25 p q (.agg (encI c2.tree).toArray) (.agg (encI c2.tree).toArray)).run Tryz.prog w = .ok () w := fun op p q w => eqlAtI.2 op p q c2.tree c2.tree w
        have TI := Lib.hid (infoId c2.tree)
        clear hnb R10 B10 L10 S11 B11
        go_wp2_with (first
          | (go_at_call 22; refine (ieq_same _ A10 A5 q d10 c5 qs (R11.out.src (rowI_one _)) Z11.out (by have := Q6.out; omega)).mono ?_; rintro e w12 ⟨rfl, t, rfl⟩)
          | (refine wpl_guard (by rfl) ?_; refine wpl_loadS rfl 25 (.tmp 73) rfl ⟨g9, 0, none⟩ rfl (encI c2.tree) Tryz.isAgg25 TI.out (fun j u hu => by rw [addr_row _ rfl, Nat.zero_add]; exact (X11.out.drewN _).cell j u (comL_tree c2 A10 q d10 j u hu)) ?_)
          | (refine wpl_guard (by rfl) ?_; refine wpl_loadS rfl 25 (.tmp 75) rfl ⟨g, 0, none⟩ rfl (encI c2.tree) Tryz.isAgg25 TI.out (fun j u hu => by rw [addr_row _ rfl, Nat.zero_add]; exact (Y11.out.drewN _).cell j u (comL_tree c2 A5 q c5 j u hu)) ?_))
        go_ret
        exact ⟨rfl, below_drewN' L11.out _⟩
end Go.Proofs.YticcianbphljpaaGreatDoor
